import Derived.Test.YtibdaonhldlmbaaProg
import Derived.Test.YtibdaonhldlmbaaA0
import Derived.Test.YtibdaonhldlmbaaK
import Derived.Test.YtibdaonhldlmbaaS
import Derived.WalkKit
import Derived.Tactics2
import Derived.WalkMore
import Derived.Laws.EntriesVeiled
import Derived.Outline
import Derived.Lib.Hide
import Derived.BigQuiet
import Derived.Deep.QuietTactic
import Derived.Deep.WholeRow
import Derived.Deep.RegionHeld3
import Derived.Laws.Rows
set_option linter.unusedVariables false
set_option linter.unusedSimpArgs false
namespace Go.Proofs.Ytibdaonhldlmbaa.F
open Go.RowKit Go.Proofs.Ytibdaonhldlmbaa.K
/-- A slice of integers reads as a list. -/
structure IntsAt (w : World) (v : Value) (l : List Int) : Prop where
  at_ : ∃ A cap, v = .slice A l.length cap ∧ l.length ≤ cap ∧ cap ≤ maxLen ∧ (A = none → l = []) ∧
    ∀ ad, A = some ad → ∀ j (h : j < l.length), ∃ b o, ad = ⟨b, o, none⟩ ∧ w.cell? ⟨b, o + j, none⟩ = some (.int .i64 l[j])
theorem IntsAt.nil (w : World) : IntsAt w (.slice none 0 0) [] := ⟨none, 0, rfl, by simp, by decide, fun _ => rfl, fun _ h => by cases h⟩
theorem IntsAt.mono {w w' : World} {v : Value} {l : List Int} (h : IntsAt w v l) (hc : ∀ b o u, w.cell? ⟨b, o, none⟩ = some u → some b = v.ownBlock → w'.cell? ⟨b, o, none⟩ = some u) : IntsAt w' v l := by
  obtain ⟨A, cap, rfl, h1, h2, h3, h4⟩ := h
  refine ⟨A, cap, rfl, h1, h2, h3, fun ad e j hj => ?_⟩
  obtain ⟨b, o, rfl, hcell⟩ := h4 ad e j hj
  subst e
  exact ⟨b, o, rfl, hc _ _ _ hcell rfl⟩
theorem IntsAt.below {w w' : World} {v : Value} {l : List Int} (h : IntsAt w v l) (hb : Below w.heap.size w w') : IntsAt w' v l :=
  h.mono fun _ _ _ hc _ => (hb.cell (World.block_lt_of_cell? w _ hc)).trans hc
theorem IntsAt.grown {w w' : World} {v : Value} {l : List Int} (h : IntsAt w v l) {row : Option Nat} (hg : w.grownBy w' row) (hne : v.ownBlock = none ∨ v.ownBlock ≠ row) : IntsAt w' v l :=
  h.mono fun b o u hc hb => hg.cell hc (by
    rcases hne with hne | hne
    · rw [hne] at hb; cases hb
    · rw [← hb] at hne; exact hne)
theorem IntsAt.src {w : World} {v : Value} {l : List Int} (h : IntsAt w v l) : SrcR w 1 v l.length (l.map (Value.int .i64)) := by
  obtain ⟨A, cap, rfl, h1, h2, h3, h4⟩ := h
  refine ⟨by simp, fun u hu => ?_, A, cap, rfl, fun e => by simp [h3 e], fun ad e j u hj => ?_⟩
  · obtain ⟨x, _, rfl⟩ := List.mem_map.1 hu; rfl
  · have hj' : j < l.length := by have := (List.getElem?_eq_some_iff.1 hj).1; simpa using this
    obtain ⟨b, o, rfl, hc⟩ := h4 ad e j hj'
    rw [show (⟨b, o, none⟩ : Addr).add j = ⟨b, o + j, none⟩ from add_mid b o j, hc]
    simp [List.getElem?_eq_getElem hj'] at hj
    rw [← hj]
theorem elI : ElemT Try.prog 22 3 1 8 (.int .i64 0) := elemT_of Try.underlying22 (by kernel_rfl) rfl (by decide)
/-- What a call does in some states, in a list of them. -/
structure CallsAt (w : World) (v : Value) (cs : List (List Int × Nat)) : Prop where
  at_ : ∃ A cap, v = .slice A cs.length cap ∧ cs.length ≤ cap ∧ cap ≤ maxLen ∧ (A = none → cs = []) ∧
    ∀ ad, A = some ad → ∀ j (h : j < cs.length), ∃ b o s, ad = ⟨b, o, none⟩ ∧ w.cell? ⟨b, o + j * 2, none⟩ = some s ∧ w.cell? ⟨b, o + j * 2 + 1, none⟩ = some (.func (.func cs[j].2) #[] #[]) ∧ IntsAt w s cs[j].1
theorem CallsAt.below {w w' : World} {v : Value} {cs : List (List Int × Nat)} (h : CallsAt w v cs) (hb : Below w.heap.size w w') : CallsAt w' v cs := by
  obtain ⟨A, cap, rfl, h1, h2, h3, h4⟩ := h
  refine ⟨A, cap, rfl, h1, h2, h3, fun ad e j hj => ?_⟩
  obtain ⟨b, o, s, rfl, c1, c2, hs⟩ := h4 ad e j hj
  exact ⟨b, o, s, rfl, (hb.cell (World.block_lt_of_cell? w _ c1)).trans c1, (hb.cell (World.block_lt_of_cell? w _ c2)).trans c2, hs.below hb⟩
theorem pick_cons (st : Int) (c : List Int × Nat) (r : List (List Int × Nat)) : pick st (c :: r) = if c.1.contains st then some c.2 else pick st r := rfl
/-- the closures' numbers -/
def isClo (n : Nat) : Prop := n = 58 ∨ n = 60 ∨ n = 46 ∨ n = 40 ∨ n = 41 ∨ n = 47 ∨ n = 50 ∨ n = 52 ∨ n = 43 ∨ n = 44
theorem run_clo {n : Nat} (h : isClo n) (x : Value) (w : World) : Sem.run Try.prog (callFunc n #[x]) w = .ok (.enter n #[x]) w := by
  unfold isClo at h
  rcases h with rfl | rfl | rfl | rfl | rfl | rfl | rfl | rfl | rfl | rfl <;> first | rfl | go_simp
set_option maxHeartbeats 2000000 in
theorem first57 (g : Nat) (st : Int) (cs : List (List Int × Nat)) (v : Value) (w : World) (hc : w.cell? ⟨g, 10, none⟩ = some (.int .i64 st)) (h : CallsAt w v cs) (Q : Ending → World → Prop)
    (hno : pick st cs = none → ∀ w', Below w.heap.size w w' → Q (.returned (.slice none 0 0)) w')
    (hclo : ∀ n, pick st cs = some n → isClo n)
    (hyes : ∀ n, pick st cs = some n → ∀ w', Below w.heap.size w w' → Calls Try.prog n #[.pointer (some ⟨g, 0, none⟩)] w' (fun e w'' => ∃ u, e = .returned u ∧ Q e w'')) : Calls Try.prog 57 #[.pointer (some ⟨g, 0, none⟩), v] w Q := by
  have H := Lib.hid h
  obtain ⟨A, cap, rfl, k1, k2, k3, k4⟩ := h
  unfold maxLen at k2
  have K3 := Lib.hid k3
  clear k3 k4
  have HN := Lib.hid hno
  have HY := Lib.hid hyes
  clear hno hyes
  go_enter Try.func57, Try.ntmps57
  go_wp2_with fail
  go_step3
  go_wp2_with fail
  go_step3
  go_wp2_with fail
  go_loopw [5, 7, 9, 12] (fun o _ _ i wr => ∃ k : Nat, k ≤ cs.length ∧ i = .int .i64 k ∧ o = .slice none 0 0 ∧ Hid (pick st (cs.drop k) = pick st cs) ∧ Below w.heap.size w wr) (fun _ _ _ i _ => cs.length - (intOf i).toNat)
  case atStart => exact ⟨0, by omega, rfl, rfl, Lib.hid rfl, Below.refl _ _⟩
  case round =>
    obtain ⟨k, hk, rfl, rfl, HP, hB⟩ := hrel
    by_cases hkl : k < cs.length
    · obtain ⟨A', cap', e, -, -, -, hcc⟩ := (H.out.below hB).at_
      cases e
      obtain ⟨ad, rfl⟩ : ∃ ad, A = some ad := by
        cases A with
        | none => rw [K3.out rfl] at hkl; cases hkl
        | some ad => exact ⟨ad, rfl⟩
      obtain ⟨b, o, s, rfl, c0, c1, hs⟩ := hcc ad rfl k hkl
      have hi0 : (0 : Int) ≤ (k : Int) := by omega
      have hia : (k : Int) < (cs.length : Int) := by omega
      have hd : cs.drop k = cs[k] :: cs.drop (k + 1) := List.drop_eq_getElem_cons hkl
      have HP2 := Lib.hid (HP.out.symm.trans (by rw [hd, pick_cons]))
      generalize cs[k] = c at *
      obtain ⟨ss, n⟩ := c
      simp only at c0 c1 hs HP2
      clear hcc hd
      have HS := Lib.hid hs
      obtain ⟨A2, cap2, rfl, q1, q2, q3, q4⟩ := hs
      have Q3 := Lib.hid q3
      clear q3 q4
      unfold maxLen at q2
      have hcst := (hB.cell (World.block_lt_of_cell? w _ hc)).trans hc
      go_wp2_with fail
      go_loopw [5, 9, 19] (fun o _ i wx => o = .slice none 0 0 ∧  ∃ j : Nat, j ≤ ss.length ∧ i = .int .i64 j ∧ Hid (st ∉ ss.take j) ∧ wx = wr.alloc (.cells #[.slice A2 ss.length cap2, .func (.func n) #[] #[]] 69)) (fun _ _ i _ => ss.length - (intOf i).toNat)
      case atStart => exact ⟨rfl, 0, by omega, rfl, Lib.hid (by simp), rfl⟩
      case round =>
        obtain ⟨rfl, j, hj, rfl, HM, rfl⟩ := hrel
        have hb1 : Below wr.heap.size wr (wr.alloc (.cells #[.slice A2 ss.length cap2, .func (.func n) #[] #[]] 69)) := (Below.refl _ wr).alloc (Nat.le_refl _) _
        have B1 := below_then hB hb1
        by_cases hjl : j < ss.length
        · obtain ⟨A'', cap'', e, -, -, -, hcc⟩ := (HS.out.below hb1).at_
          cases e
          obtain ⟨ad2, rfl⟩ : ∃ ad, A2 = some ad := by
            cases A2 with
            | none => rw [Q3.out rfl] at hjl; cases hjl
            | some ad => exact ⟨ad, rfl⟩
          obtain ⟨b2, o2, rfl, d0⟩ := hcc ad2 rfl j hjl
          have hj0 : (0 : Int) ≤ (j : Int) := by omega
          have hja : (j : Int) < (ss.length : Int) := by omega
          have ht := Lib.hid (List.take_succ_eq_append_getElem hjl)
          have hmem := Lib.hid (List.getElem_mem hjl)
          generalize ss[j] = x at *
          have hcst2 := (B1.cell (World.block_lt_of_cell? w _ hc)).trans hc
          clear hcc
          by_cases hx : x = st
          · subst hx
            have hp : pick x cs = some n := by rw [HP2.out, if_pos (by simpa using hmem.out)]
            have HQ := Lib.hid (HY.out n hp _ B1)
            have HC := Lib.hid (hclo n hp)
            clear hp HY HN HP HP2 HM ht hmem
            go_wp2_with fail
            rw [run_clo HC.out, Oper.upon_enter]
            refine HQ.out.mono ?_
            rintro e w2 ⟨u, rfl, hq⟩
            go_wp2_with fail
            exact hq
          · have hxs : (x == st) = false := by simpa using hx
            have HM2 : Hid (st ∉ ss.take (j + 1)) := Lib.hid (by rw [ht.out]; simp [HM.out]; exact fun e => hx e.symm)
            clear HM ht hmem
            go_wp2_with fail
            go_roundw
            case rel => exact ⟨rfl, j + 1, by omega, by go_num, HM2, trivial⟩
            case measure => simp [intOf]; omega
        · obtain rfl : j = ss.length := by omega
          have HP3 : Hid (pick st (cs.drop (k + 1)) = pick st cs) := Lib.hid (by
            rw [HP2.out, if_neg]
            have := HM.out
            simpa using this)
          clear HP HP2 HM
          go_wp2_with fail
          go_roundw
          case rel => exact ⟨k + 1, by omega, by go_num, rfl, HP3, B1⟩
          case measure => simp [intOf]; omega
    · obtain rfl : k = cs.length := by omega
      have hn : pick st cs = none := by rw [← HP.out, List.drop_length]; rfl
      have HQ := Lib.hid (HN.out hn wr hB)
      clear hn HN HY HP
      go_wp2_with fail
      exact HQ.out
end Go.Proofs.Ytibdaonhldlmbaa.F
