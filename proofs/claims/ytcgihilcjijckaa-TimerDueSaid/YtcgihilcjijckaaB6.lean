import Derived.Test.YtcgihilcjijckaaB5
import Derived.Deep.DeepCutAuto
import Derived.Deep.CutBlock
import Derived.Deep.RegionLaw
import Derived.WalkSpells
import Derived.BigRegion
import Derived.Outline
set_option linter.unusedVariables false
set_option linter.unusedSimpArgs false
namespace Go.Proofs.Ytcgihilcjijckaa.F
open Go.RowKit Go.Proofs.Ytcgihilcjijckaa.K
variable (g : Nat) (w : World)
def timeB (t : Int) : Bool := decide (0 ≤ t) && decide (t ≤ 1099511627776)
theorem isTime39 (t : Int) : Calls Try.prog 39 #[.int .i64 t] w fun e w' => e = .returned (.bool (timeB t)) ∧ w = w' := by
  unfold timeB
  by_cases h : 0 ≤ t
  · have h1 : decide (0 ≤ t) = true := by simpa using h
    rw [h1]
    go_enter Try.func39, Try.ntmps39
    go_wp2
    go_ret
    exact ⟨by simp, rfl⟩
  · have h1 : decide (0 ≤ t) = false := by simpa using h
    rw [h1]
    go_enter Try.func39, Try.ntmps39
    go_wp2
    go_ret
    exact ⟨by simp, rfl⟩
def okB (id at_ : Int) : Bool := decide (0 ≤ id) && (decide (id ≤ 65535) && timeB at_)
theorem set_bad (v : Value) (n id at_ : Int) (l : List Tm) (h : okB id at_ = false) : Calls Try.prog 24 #[.pointer (some ⟨g, 0, none⟩), .int .i64 id, .int .i64 at_] w fun e w' => e = .returned (.int .i64 1) ∧ w = w' := by
  unfold okB at h
  have HT := Lib.hid (fun W => isTime39 W at_)
  by_cases h1 : 0 ≤ id
  · by_cases h2 : id ≤ 65535
    · have h3 : timeB at_ = false := by simpa [h1, h2] using h
      rw [h3] at HT
      clear h h3
      go_enter Try.func24, Try.ntmps24
      go_wp2_with fail
      refine (HT.out _).mono ?_
      rintro e w1 ⟨rfl, rfl⟩
      go_wp2_with fail
      go_ret
      exact ⟨rfl, rfl⟩
    · clear h
      go_enter Try.func24, Try.ntmps24
      go_wp2_with fail
      go_ret
      exact ⟨rfl, rfl⟩
  · clear h
    go_enter Try.func24, Try.ntmps24
    go_wp2_with fail
    go_ret
    exact ⟨rfl, rfl⟩
theorem src_rec (w : World) (t : Tm) : SrcR (w.alloc (.cells #[.int .i64 t.id, .int .i64 t.at_, .int .i64 t.set_] 63)) 3 (.slice (some ⟨w.heap.size, 0, none⟩) 1 1) 1 (tms [t]) :=
  ⟨rfl, fun u hu => tms_one hu, _, _, rfl, fun e => (by cases e), fun ad e j u hj => by
    cases e
    rw [add_mid, cell_of_row _ _ _ _ _ _ (heap_alloc_new w _)]
    have hj' : ([.int .i64 t.id, .int .i64 t.at_, .int .i64 t.set_] : List Value)[j]? = some u := hj
    simpa using hj'⟩
/-- what Set is to find ahead of its second half -/
structure SetS (w w1 : World) (g : Nat) (v v1 : Value) (n : Int) (l1 : List Tm) : Prop where
  q : QAt w1 g v1 n l1
  grow : Grown2 w w1 g v.ownBlock
  own : ∀ k, v1.ownBlock = some k → v.ownBlock = some k ∨ w.heap.size ≤ k
theorem map_erase (l : List Tm) (j : Nat) : (l.map Tm.on).eraseIdx j = (l.eraseIdx j).map Tm.on := by
  rw [List.eraseIdx_eq_take_drop_succ, List.eraseIdx_eq_take_drop_succ, List.map_append, List.map_take, List.map_drop]
theorem q_fin3 {w w1 w2 : World} {g : Nat} {v v0 v' : Value} {n1 : Int} {l' : List Tm} {m : Nat} {xs : List Value} (hd : Below w.heap.size w w2) (hq : w.heap[g]? = some (.cells #[v, .int .i64 n1] 61 (0, 0))) (hv : ∀ k, v0.ownBlock = some k → v.ownBlock = some k) (hg : v.ownBlock ≠ some g) (hr : RowR w2 w1 0 63 3 v0 v' m xs) (hm : m = l'.length) (hx : xs = tms l') : SetS w (w1.setCell ⟨g, 0, none⟩ v') g v v' n1 l' := by
  obtain ⟨r1, r2, r3⟩ := hr
  subst hm hx
  have hlt : g < w.heap.size := (Array.getElem?_eq_some_iff.1 hq).1
  have hs := hd.size
  have hne0 : v0.ownBlock ≠ some g := fun e => hg (hv g e)
  have hb1 : w1.heap[g]? = some (.cells #[v, .int .i64 n1] 61 (0, 0)) := (r2.block g (by omega) (fun e => hne0 e.symm)).trans ((hd.block g hlt).trans hq)
  have hne : v'.ownBlock ≠ some g := fun e => by
    rcases r3 g e with h | h
    · exact hne0 h
    · omega
  have hset : w1.grownBy (w1.setCell ⟨g, 0, none⟩ v') (some g) := ⟨rfl, rfl, rfl, by simp [World.setCell], fun k _ hk => heap_setCell_other _ _ _ _ (fun e => hk (by simp [e]))⟩
  refine ⟨⟨heap_setCell_same _ _ _ _ _ _ hb1, r1.kept hset (fun k hk e => hne (by rw [hk, ← e])), hne⟩, ⟨?_, ?_, ?_, ?_, fun k hk h1 h2 => ?_⟩, fun k hk => ?_⟩
  · exact r2.os.trans hd.os
  · exact r2.tape.trans hd.tape
  · exact r2.output.trans hd.output
  · have := r2.size
    simp only [World.setCell, Array.size_modify]
    omega
  · rw [heap_setCell_other _ _ _ _ (show k ≠ g from h1)]
    exact (r2.block k (by omega) (fun e => h2 (hv k e.symm).symm)).trans (hd.block k hk)
  · rcases r3 k hk with h | h
    · exact .inl (hv k h)
    · exact .inr (by omega)
theorem SetS.setn {w w1 : World} {g : Nat} {v v1 : Value} {n : Int} {l1 : List Tm} (h : SetS w w1 g v v1 n l1) (n' : Int) : SetS w (w1.setCell ⟨g, 1, none⟩ (.int .i64 n')) g v v1 n' l1 := by
  have hset : w1.grownBy (w1.setCell ⟨g, 1, none⟩ (.int .i64 n')) (some g) := ⟨rfl, rfl, rfl, by simp [World.setCell], fun k _ hk => heap_setCell_other _ _ _ _ (fun e => hk (by simp [e]))⟩
  exact ⟨⟨heap_setCell_same _ _ _ _ _ _ h.q.blk, h.q.row.kept hset (fun k hk e => h.q.ne (by rw [hk, ← e])), h.q.ne⟩, h.grow.trans (r1 := none) (⟨rfl, rfl, rfl, by simp [World.setCell], fun k hk h1 _ => heap_setCell_other _ _ _ _ h1⟩ : Grown2 w1 (w1.setCell ⟨g, 1, none⟩ (.int .i64 n')) g none) (fun k e => by cases e), h.own⟩
def SetR (id at_ : Int) (L : List On) (g : Nat) (v : Value) (w : World) (e : Ending) (w' : World) : Prop := ∃ (er : Int) (n2 : Int) (l2 : List Tm), e = .returned (.int .i64 er) ∧ QR g v n2 l2 w w' ∧ l2.length ≤ 64 ∧ ((er = 7 ∧ (∀ y ∈ L, y.id ≠ id) ∧ 64 ≤ L.length ∧ l2.map Tm.on = L) ∨ (er = 0 ∧ ((∀ y ∈ L, y.id ≠ id) → L.length < 64) ∧ l2.map Tm.on = ins ⟨id, at_⟩ (out id L)))
theorem set_fin {w w3 w5 wc : World} {g b4 cp4 m : Nat} {v v3 : Value} {n id at_ : Int} {L : List On} {l1 : List Tm} (S2 : SetS w w3 g v v3 n l1) (S4 : SetS w3 w5 g v3 (.slice (some ⟨b4, 0, none⟩) (l1.length + 1) cp4) n (l1 ++ [⟨0, 0, 0⟩])) (HG : w5.grownBy wc (some b4)) (HQ : wc.heap[g]? = some (.cells #[.slice (some ⟨b4, 0, none⟩) (l1.length + 1) cp4, .int .i64 n] 61 (0, 0)))
    (HR : Row wc 0 63 3 (.slice (some ⟨b4, 0, none⟩) (l1.length + 1) cp4) (l1.length + 1) (shiftX 3 m (l1.length + 1) (tms (l1 ++ [⟨0, 0, 0⟩])))) (hm : m ≤ l1.length) (hl : l1.length ≤ 63) (hbg : b4 ≠ g) (HO : l1.map Tm.on = out id L) (HN : (∀ y ∈ L, y.id ≠ id) → L.length < 64)
    (HS : Sorted L) (HL : ∀ (j : Nat) (hj : j < l1.length), m ≤ j → at_ < l1[j].at_) (HM : m = 0 ∨ ∀ hk : m - 1 < l1.length, l1[m - 1].at_ ≤ at_) :
    SetR id at_ L g v w (.returned (.int .i64 0)) (((wc.setCell ⟨b4, m * 3, none⟩ (.int .i64 id)).setCell ⟨b4, m * 3 + 1, none⟩ (.int .i64 at_)).setCell ⟨b4, m * 3 + 2, none⟩ (.int .i64 n)).drew := by
  have hput := tms_put l1 m hm ⟨id, at_, n⟩ ⟨0, 0, 0⟩
  have hlen : (l1.take m ++ (⟨id, at_, n⟩ : Tm) :: l1.drop m).length = l1.length + 1 := by simp; omega
  have hrow := row_drew (row_set (row_set (row_set HR (m * 3) (.int .i64 id)) (m * 3 + 1) (.int .i64 at_)) (m * 3 + 2) (.int .i64 n))
  rw [hput, ← hlen] at hrow
  have own4 : ∀ k, some b4 = some k → v.ownBlock = some k ∨ w.heap.size ≤ k := fun k hk => by
    rcases S4.own k hk with q | q
    · exact S2.own k q
    · exact .inr (Nat.le_trans S2.grow.size q)
  have hblk : ∀ k, k ≠ b4 → (((wc.setCell ⟨b4, m * 3, none⟩ (.int .i64 id)).setCell ⟨b4, m * 3 + 1, none⟩ (.int .i64 at_)).setCell ⟨b4, m * 3 + 2, none⟩ (.int .i64 n)).drew.heap[k]? = wc.heap[k]? := fun k hk =>
    (heap_setCell_other _ _ _ _ hk).trans ((heap_setCell_other _ _ _ _ hk).trans (heap_setCell_other _ _ _ _ hk))
  refine ⟨0, n, l1.take m ++ ⟨id, at_, n⟩ :: l1.drop m, rfl, ⟨⟨.slice (some ⟨b4, 0, none⟩) (l1.length + 1) cp4, ⟨(hblk g (fun e => hbg e.symm)).trans HQ, by rw [← hlen] at *; exact hrow, fun e => hbg (by simpa [Value.ownBlock] using e)⟩, fun k hk => own4 k hk⟩, ?_⟩, by rw [hlen]; omega, .inr ⟨rfl, HN, ?_⟩⟩
  · refine (S2.grow.trans S4.grow S2.own).trans (r1 := some b4) ⟨HG.os, HG.tape, HG.output, ?_, fun k hk h1 h2 => (hblk k (fun e => h2 (by rw [e]))).trans (HG.block k hk h2)⟩ own4
    have := HG.size
    simpa [World.setCell] using this
  · rw [List.map_append, List.map_cons, List.map_take, List.map_drop, HO]
    have hs2 : Sorted (out id L) := List.Pairwise.sublist List.filter_sublist HS
    have hll : (out id L).length = l1.length := by rw [← HO]; simp
    refine (ins_at (x := ⟨id, at_⟩) (k := m) (by omega) ?_ ?_ hs2).symm
    · intro j hj hmj
      have := HL j (by omega) hmj
      simpa [← HO, Tm.on] using this
    · rcases HM with h | h
      · exact .inl h
      · refine .inr fun hk => ?_
        have := h (by omega)
        simpa [← HO, Tm.on] using this
set_option maxHeartbeats 8000000 in
set_option maxRecDepth 100000 in
theorem set24 (v : Value) (n id at_ : Int) (l : List Tm) (hl : l.length ≤ 64) (hu : Uniq (l.map Tm.on)) (hs : Sorted (l.map Tm.on)) (hok : okB id at_ = true) (h : QAt w g v n l) : Calls Try.prog 24 #[.pointer (some ⟨g, 0, none⟩), .int .i64 id, .int .i64 at_] w (SetR id at_ (l.map Tm.on) g v w) := by
  have HQ := Lib.hid h
  have HU := Lib.hid hu
  have HS := Lib.hid hs
  unfold okB at hok
  simp only [Bool.and_eq_true, decide_eq_true_eq] at hok
  obtain ⟨h1, h2, h3⟩ := hok
  have HT := Lib.hid (fun W => isTime39 W at_)
  rw [h3] at HT
  clear h hu hs h3
  go_enter Try.func24, Try.ntmps24
  go_wp2_with fail
  refine (HT.out _).mono ?_
  rintro e w1 ⟨rfl, rfl⟩
  clear HT
  go_wp2_with fail
  refine (find38 g _ v n l id HQ.out).mono ?_
  rintro e w1 ⟨k, rfl, hf, hb⟩
  have HF := Lib.hid hf
  have HB := Lib.hid hb
  have Q1 := Lib.hid (HQ.out.below hb)
  clear hf hb
  go_upto_if 28 with fail
  go_cut [] (fun wx => ∃ (v1 : Value) (l1 : List Tm), Hid (SetS w wx g v v1 n l1) ∧ l1.length ≤ 63 ∧ Hid (l1.map Tm.on = out id (l.map Tm.on)) ∧ Hid ((∀ y ∈ l.map Tm.on, y.id ≠ id) → (l.map Tm.on).length < 64))
  case first =>
    have c0 := Q1.out.c0
    obtain ⟨A, cap, hv, k1, k2, -⟩ := Q1.out.form
    unfold maxLen at k2
    rcases find_out HU.out HF.out with ⟨rfl, ho⟩ | ⟨j, hj, rfl, ho⟩
    · have HO := Lib.hid ho
      have HNO : Hid (∀ y ∈ l.map Tm.on, y.id ≠ id) := Lib.hid (by
        rcases HF.out with ⟨-, hq⟩ | ⟨j, hj, hq, -⟩
        · exact hq
        · omega)
      clear ho
      subst hv
      by_cases h64 : 64 ≤ l.length
      · have h64i : (64 : Int) ≤ (l.length : Int) := by omega
        go_wp2_with fail
        go_ret
        exact ⟨7, n, l, rfl, ⟨⟨_, Q1.out, fun k hk => .inl hk⟩, Grown2.below HB.out _ _⟩, hl, .inl ⟨rfl, HNO.out, by simpa using h64, rfl⟩⟩
      · have h64i : ¬ (64 : Int) ≤ (l.length : Int) := by omega
        go_wp2_with fail
        go_meet
        exact ⟨_, l, Lib.hid ⟨Q1.out, Grown2.below HB.out _ _, fun k hk => .inl hk⟩, by omega, Lib.hid HO.out.symm, Lib.hid (fun _ => by simpa using h64)⟩
    · have hjl : j < l.length := by simpa using hj
      have D := Lib.hid (drop28 g _ v n l j hjl hl Q1.out)
      have HO := Lib.hid ho
      have HX : Hid (¬ ∀ y ∈ l.map Tm.on, y.id ≠ id) := Lib.hid (fun hh => by
        rcases HF.out with ⟨hq, -⟩ | ⟨j', hj', -, hq⟩
        · omega
        · exact hh _ (List.getElem_mem hj') hq)
      clear ho hv c0
      go_wp2_with fail
      refine D.out.mono ?_
      rintro e w2 ⟨rfl, ⟨⟨v1, q1, q2⟩, q3⟩⟩
      have SS : Hid (SetS w w2 g v v1 n (l.eraseIdx j)) := Lib.hid ⟨q1, (Grown2.below HB.out g v.ownBlock).trans q3 (fun k hk => .inl hk), fun k hk => by
        rcases q2 k hk with q | q
        · exact .inl q
        · exact .inr (Nat.le_trans HB.out.size q)⟩
      clear q1 q2 q3 D
      go_wp2_with fail
      go_meet
      exact ⟨v1, l.eraseIdx j, SS, by rw [List.length_eraseIdx_of_lt hjl]; omega, Lib.hid (by rw [← HO.out, map_erase]), Lib.hid (fun hh => absurd hh HX.out)⟩
  case rest =>
    obtain ⟨v1, l1, S1, hl1, HO, HN⟩ := hcut
    clear Q1 HF HB
    have c1 := S1.out.q.c1
    have c0 := S1.out.q.c0
    have f1 := S1.out.q.free 1
    have S2 := Lib.hid (S1.out.setn (wrap64 (n + 1)))
    clear S1
    go_upto_region 11 with fail
    generalize wc.setCell ⟨g, 1, none⟩ (.int .i64 (wrap64 (n + 1))) = w3 at *
    clear c1 c0 f1
    have c0 := S2.out.q.c0
    obtain ⟨A, cap, rfl, k1, k2, k3⟩ := S2.out.q.form
    unfold maxLen at k2
    go_upto_block 1 with fail
    go_cut [8] (fun i wx => w3 = wx ∧ ∃ m : Nat, i = .int .i64 m ∧ m ≤ l1.length ∧ Hid (∀ (j : Nat) (hj : j < l1.length), m ≤ j → at_ < l1[j].at_) ∧ Hid (m = 0 ∨ ∀ hk : m - 1 < l1.length, l1[m - 1].at_ ≤ at_))
    case first =>
      go_wp2_with fail
      go_loop [8] (fun i => ∃ m : Nat, i = .int .i64 m ∧ m ≤ l1.length ∧ Hid (∀ (j : Nat) (hj : j < l1.length), m ≤ j → at_ < l1[j].at_)) (fun i => (intOf i).toNat)
      case atStart => exact ⟨l1.length, rfl, Nat.le_refl _, Lib.hid (fun j hj h0 => by omega)⟩
      case round =>
        obtain ⟨m, rfl, hm, HL⟩ := hrel
        cases m with
        | zero =>
          go_wp2_with fail
          go_meet
          exact ⟨rfl, 0, rfl, hm, HL, Lib.hid (.inl rfl)⟩
        | succ m =>
          obtain ⟨b, rfl, hbg, d0, d1, d2⟩ := S2.out.q.cell (k := m) (by omega)
          have HX : Hid (∀ hj : m < l1.length, l1[m].at_ = l1[m].at_) := Lib.hid (fun _ => rfl)
          obtain ⟨x, hx⟩ : ∃ x, x = l1[m].at_ := ⟨_, rfl⟩
          have HXX := Lib.hid hx
          rw [← hx] at d1
          clear hx HX d0 d2
          have m0 : (0 : Int) ≤ (m : Int) := by omega
          have m1 : (m : Int) < (l1.length : Int) := by omega
          by_cases hlt : at_ < x
          · go_wp2_with fail
            go_round
            case rel => exact ⟨m, by go_num, by omega, Lib.hid (fun j hj hmj => by
              by_cases e : j = m
              · subst e; rw [← HXX.out]; exact hlt
              · exact HL.out j hj (by omega))⟩
            case measure => simp [intOf]
          · go_wp2_with fail
            go_meet
            exact ⟨rfl, m + 1, by go_num, hm, HL, Lib.hid (.inr (fun hk => by simp only [Nat.add_sub_cancel]; rw [← HXX.out]; omega))⟩
    case rest =>
      obtain ⟨rfl, m, rfl, hm, HL, HM⟩ := hcut
      have hbx : Below w3.heap.size w3 (w3.alloc (.cells #[.int .i64 0, .int .i64 0, .int .i64 0] 63)) := (Below.refl _ _).alloc (Nat.le_refl _) _
      have HBX := Lib.hid hbx
      have hrow := S2.out.q.row.below hbx
      clear hbx
      have s1 : l1.length + 1 ≤ maxLen := by unfold maxLen; omega
      have s2 : (l1.length + 1) * 24 ≤ 140737488355328 := by omega
      go_wp2_with (at_builtin; refine wpList_row elT rfl _ _ rfl 0 _ _ _ rfl hrow _ 1 _ rfl (src_rec w3 ⟨0, 0, 0⟩) s1 s2 (Nat.zero_le _) ?_)
      intro v4 w4 hr4
      obtain ⟨A4, cp4, rfl, hc4, hm4⟩ := Row.slice hr4.row
      have S4 := Lib.hid (q_fin3 (l' := l1 ++ [⟨0, 0, 0⟩]) HBX.out S2.out.q.blk (fun k hk => hk) S2.out.q.ne hr4 (by simp) (by rw [tms_app]))
      have hgg := Lib.hid ((hr4.grow.block g (by have := (Array.getElem?_eq_some_iff.1 S2.out.q.blk).1; simp; omega) (fun e => S2.out.q.ne e.symm)).trans ((HBX.out.block g (Array.getElem?_eq_some_iff.1 S2.out.q.blk).1).trans S2.out.q.blk))
      clear hrow hr4 c0
      have c0 : w4.cell? ⟨g, 0, none⟩ = some (.slice A l1.length cap) := (cell_of_row _ _ _ _ _ _ hgg.out).trans rfl
      have f0 : w4.frozen? ⟨g, 0, none⟩ = false := frozen_of_row _ _ _ _ _ hgg.out
      go_upto_region 15 with fail
      generalize w4.setCell ⟨g, 0, none⟩ (.slice A4 (l1.length + 1) cp4) = w5 at *
      clear c0 f0 hgg k3
      have c0 := S4.out.q.c0
      have hQ6 : QAt w5 g (.slice A4 (l1 ++ [(⟨0, 0, 0⟩ : Tm)]).length cp4) (wrap64 (n + 1)) (l1 ++ [(⟨0, 0, 0⟩ : Tm)]) := by rw [List.length_append]; exact S4.out.q
      obtain ⟨b4, rfl, hbg, -, -, -⟩ := hQ6.cell (k := 0) (by simp)
      clear hQ6
      have hR : Row w5 0 63 3 (.slice (some ⟨b4, 0, none⟩) (l1.length + 1) cp4) (l1.length + 1) (tms (l1 ++ [⟨0, 0, 0⟩])) := by
        have hq5 := S4.out.q.row
        rw [List.length_append] at hq5
        exact hq5
      have HR := Lib.hid hR
      clear hR
      have HM1 := Lib.hid hm
      have i0 : (0 : Int) ≤ (m : Int) := by omega
      have i1 : (m : Int) ≤ (l1.length : Int) + 1 := by omega
      have i2 : (m : Int) + 1 ≤ (l1.length : Int) + 1 := by omega
      have i3 : (l1.length : Int) + 1 ≤ (cp4 : Int) := by omega
      have i4 : ¬ cp4 = m := by omega
      have i5 : (0 : Int) ≤ (m : Int) + 1 := by omega
      have hdl : l1.length - m = l1.length + 1 - (m + 1) := by omega
      have HDL := Lib.hid hdl
      clear hdl
      have hm5 : m + 1 ≤ l1.length + 1 := by omega
      have hw2 : ((m : Int) + 1).toNat = m + 1 := by omega
      have hw : IntKind.i64.wrap ((m : Int) + 1) = (m : Int) + 1 := IntWalk.i64_in _ (by unfold maxLen at hm4; omega)
      have hone : Hid (∀ u ∈ tms (l1 ++ [⟨0, 0, 0⟩]), u.oneCell' = true) := Lib.hid (fun u hu => tms_one hu)
      go_cut [90] (fun _ wx => Hid (Row wx 0 63 3 (.slice (some ⟨b4, 0, none⟩) (l1.length + 1) cp4) (l1.length + 1) (shiftX 3 m (l1.length + 1) (tms (l1 ++ [⟨0, 0, 0⟩])))) ∧ Hid (w5.grownBy wx (some b4)))
      case first =>
        by_cases hc : cp4 = m + 1
        · subst hc
          have i6 : (m : Int) ≤ (m : Int) + 1 := by omega
          have i7 : (l1.length : Int) + 1 ≤ (m : Int) + 1 := by omega
          have hdl : 0 = l1.length + 1 - (m + 1) := by omega
          have HDL2 := Lib.hid hdl
          clear hdl
          go_region_law ((refine step_shift elT (by rfl) _ _ (by rfl) (row_drew HR.out) hone.out m hm5 0 0 1 (fun hh => by omega) 0 (l1.length + 1 - m) HDL2.out rfl (by rfl) (by rfl) ?_; intro w6 hr6 hg6))
          all_goals go_wp2_with fail
          all_goals go_meet
          all_goals exact ⟨Lib.hid hr6, Lib.hid ⟨hg6.os, hg6.tape, hg6.output, hg6.size, hg6.block⟩⟩
        · go_region_law ((refine step_shift elT (by rfl) _ _ (by rfl) (row_drew HR.out) hone.out m hm5 ((m + 1) * 3) (cp4 - (m + 1)) (cp4 - m) (fun _ => rfl) (l1.length - m) (l1.length + 1 - m) HDL.out rfl (by rfl) (by rfl) ?_; intro w6 hr6 hg6))
          all_goals go_wp2_with fail
          all_goals go_meet
          all_goals exact ⟨Lib.hid hr6, Lib.hid ⟨hg6.os, hg6.tape, hg6.output, hg6.size, hg6.block⟩⟩
      case rest =>
        obtain ⟨HR6, HG6⟩ := hcut
        clear c0
        have hgl := (Array.getElem?_eq_some_iff.1 S4.out.q.blk).1
        have HQ6 := Lib.hid ((HG6.out.block g hgl (by simp; omega)).trans S4.out.q.blk)
        have c0 : wc.cell? ⟨g, 0, none⟩ = some (.slice (some ⟨b4, 0, none⟩) (l1.length + 1) cp4) := (cell_of_row _ _ _ _ _ _ HQ6.out).trans rfl
        have c1 : wc.cell? ⟨g, 1, none⟩ = some (.int .i64 (wrap64 (n + 1))) := (cell_of_row _ _ _ _ _ _ HQ6.out).trans rfl
        have cellx : ∀ j, j < 3 → ∃ u, wc.cell? ⟨b4, m * 3 + j, none⟩ = some u := fun j hj => by
          have hlx := HR6.out.len
          obtain ⟨u, hu⟩ : ∃ u, (shiftX 3 m (l1.length + 1) (tms (l1 ++ [⟨0, 0, 0⟩])))[m * 3 + j]? = some u := ⟨_, List.getElem?_eq_getElem (by rw [hlx]; omega)⟩
          obtain ⟨g', hg', -, hcc⟩ := HR6.out.cell hu
          cases hg'
          exact ⟨u, hcc⟩
        have frx : ∀ j, wc.frozen? ⟨b4, j, none⟩ = false := fun j => by
          rcases HR6.out.form with ⟨h1, -⟩ | ⟨g', cap', cur, h1, -, h3, -⟩
          · cases h1
          · cases h1
            exact frozen_of_row _ _ _ _ _ h3
        obtain ⟨u0, d0⟩ := cellx 0 (by omega)
        obtain ⟨u1, d1⟩ := cellx 1 (by omega)
        obtain ⟨u2, d2⟩ := cellx 2 (by omega)
        simp only [Nat.add_zero] at d0
        have f0 := frx (m * 3)
        have f1 := frx (m * 3 + 1)
        have f2 := frx (m * 3 + 2)
        clear cellx frx
        go_wp2_with fail
        go_region
        all_goals go_wp2_with fail
        all_goals go_ret
        exact set_fin S2.out S4.out HG6.out HQ6.out HR6.out HM1.out hl1 hbg HO.out HN.out HS.out HL.out HM.out
end Go.Proofs.Ytcgihilcjijckaa.F
