import Derived.Test.YtcgihilcjijckaaD6
set_option linter.unusedVariables false
set_option linter.unusedSimpArgs false
namespace Go.Proofs.Ytcgihilcjijckaa.F
open Go.RowKit Go.Proofs.Ytcgihilcjijckaa.K
def intsOn (l : List On) : List Value := l.map (fun x => .int .i64 x.id)
theorem dueL_cons_pos {now : Int} {m : On} {t : List On} (h : m.at_ ≤ now) : dueL now (m :: t) = m :: dueL now t ∧ restL now (m :: t) = restL now t := by unfold dueL restL; simp [h]
theorem dueL_cons_neg {now : Int} {m : On} {t : List On} (h : now < m.at_) : dueL now (m :: t) = [] ∧ restL now (m :: t) = m :: t := by
  unfold dueL restL
  have : ¬ m.at_ ≤ now := by omega
  simp [this]
theorem due_late {now : Int} {l : List On} (h : ∀ m t, l = m :: t → now < m.at_) : dueL now l = [] ∧ restL now l = l := by
  cases l with
  | nil => exact ⟨rfl, rfl⟩
  | cons m t => exact dueL_cons_neg (h m t rfl)
theorem srt_pop_len {R t : List On} {m : On} (hu : Uniq R) (h : srt R = m :: t) : (out m.id R).length + 1 = R.length := by
  have h1 := congrArg List.length (pop_out hu h)
  rw [len_srt] at h1
  have h2 := congrArg List.length h
  rw [len_srt] at h2
  simp at h2
  omega
def RDueR (now : Int) (l : List On) (g : Nat) (v : Value) (w : World) (e : Ending) (w' : World) : Prop := ∃ (u v2 : Value) (l2 : List On), e = .returned u ∧ RO w w' g v v2 l2 3 1 u (dueL now (srt l)).length (intsOn (dueL now (srt l))) ∧ srt l2 = restL now (srt l) ∧ l2.length ≤ l.length ∧ Uniq l2
theorem rdue_end {w wr : World} {g : Nat} {v v1 ov : Value} {now : Int} {l l1 : List On} {xs : List On} (h0 : dueL now (srt l1) = [] ∧ restL now (srt l1) = srt l1) (HX : xs ++ dueL now (srt l1) = dueL now (srt l)) (HT : restL now (srt l1) = restL now (srt l)) (HR : RO w wr g v v1 l1 3 1 ov xs.length (intsOn xs)) (hl : l1.length ≤ l.length) (hu : Uniq l1) : RDueR now l g v w (.returned ov) wr := by
  rw [h0.1, List.append_nil] at HX
  rw [h0.2] at HT
  exact ⟨ov, v1, l1, rfl, by rw [← HX]; exact HR, HT, hl, hu⟩
variable (g : Nat) (w : World)
set_option maxHeartbeats 4000000 in
theorem rdue31 (v : Value) (now : Int) (l : List On) (hl : l.length ≤ 64) (hu : Uniq l) (h : RAt w g v l) : Calls Try.prog 31 #[.pointer (some ⟨g, 0, none⟩), .int .i64 now] w (RDueR now l g v w) := by
  have HQ := Lib.hid h
  have HU := Lib.hid hu
  have hlt : g < w.heap.size := (Array.getElem?_eq_some_iff.1 h.blk).1
  have R0 : Hid (RO w w g v v l 3 1 (.slice none 0 0) 0 (intsOn [])) := Lib.hid ⟨Row.nil _ _ _ _, RS.refl h, fun k hk => by simp [Value.ownBlock] at hk⟩
  clear h hu
  go_enter Try.func31, Try.ntmps31
  go_wp2_with fail
  go_loopg [5] l.length (fun gn ov wr => ∃ (l1 : List On) (xs : List On) (v1 : Value), gn = l1.length ∧ l1.length ≤ l.length ∧ xs.length + l1.length ≤ 64 ∧ Hid (xs ++ dueL now (srt l1) = dueL now (srt l)) ∧ Hid (restL now (srt l1) = restL now (srt l)) ∧ Hid (RO w wr g v v1 l1 3 1 ov xs.length (intsOn xs)) ∧ Hid (Uniq l1))
  case atStart => exact ⟨l, [], v, rfl, Nat.le_refl _, by simpa using hl, Lib.hid rfl, Lib.hid rfl, R0, HU⟩
  case round =>
    obtain ⟨l1, xs, v1, rfl, hl1, hx, HX, HT, HR, HU1⟩ := hrel
    clear R0
    have hP := rpop32 g wr v1 now l1 (by omega) HU1.out HR.out.q.q
    go_wp2_with fail
    refine hP.mono ?_
    rintro e w1 ⟨id, er, v2, l2, rfl, hrs, ⟨rfl, rfl, hl2, hn⟩ | ⟨rfl, m, t, hs, hm, rfl, hl2⟩⟩
    · have R1 := Lib.hid (HR.out.step hlt hrs)
      rw [hl2] at R1
      have H0 := Lib.hid (due_late hn)
      clear hP hrs hn hl2
      go_wp2_with fail
      try rw [Exit.noGoto_ret]
      go_ret
      exact rdue_end H0.out HX.out HT.out R1.out hl1 HU1.out
    · have R1 := Lib.hid (HR.out.step hlt hrs)
      have hd := dueL_cons_pos (t := t) hm
      have hpo := pop_out HU1.out hs
      have HX2 : Hid ((xs ++ [m]) ++ dueL now (srt l2) = dueL now (srt l)) := Lib.hid (by rw [← HX.out, hl2, hpo, hs, hd.1]; simp)
      have HT2 : Hid (restL now (srt l2) = restL now (srt l)) := Lib.hid (by rw [← HT.out, hl2, hpo, hs, hd.2])
      have hle : l2.length + 1 = l1.length := by rw [hl2]; exact srt_pop_len HU1.out hs
      have HU2 : Hid (Uniq l2) := Lib.hid (by rw [hl2]; exact uniq_out HU1.out _)
      clear hP hrs hl2 hs hm hd hpo HX HT HU1 HR
      have hbx : Below w1.heap.size w1 (w1.alloc (.cells #[.int .i64 m.id] 3)) := (Below.refl _ _).alloc (Nat.le_refl _) _
      have R2 := Lib.hid (R1.out.below hbx)
      clear hbx
      have hrow := R2.out.row
      have hws := R2.out.q.grow.size
      have s1 : xs.length + 1 ≤ maxLen := by unfold maxLen; omega
      have s2 : (xs.length + 1) * 8 ≤ 140737488355328 := by omega
      go_wp2_with (at_builtin; refine wpList_row elI rfl _ _ rfl w.heap.size _ _ _ rfl hrow _ 1 _ rfl (src_one w1 (.int .i64 m.id) 3 rfl) s1 s2 hws ?_)
      intro v4 w4 hr4
      have R4 := Lib.hid (R2.out.app hlt hr4)
      clear hr4 hrow R1 R2
      go_wp2_with fail
      go_roundg l2.length
      case rel => exact ⟨l2, xs ++ [m], v2, rfl, by omega, by simp only [List.length_append, List.length_cons, List.length_nil]; omega, HX2, HT2, by simpa [intsOn] using R4, HU2⟩
      case measure => omega
end Go.Proofs.Ytcgihilcjijckaa.F
