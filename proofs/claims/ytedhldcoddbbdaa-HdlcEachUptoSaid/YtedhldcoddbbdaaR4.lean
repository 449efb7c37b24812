import Derived.Test.YtedhldcoddbbdaaR3
import Derived.WalkMore
set_option linter.unusedVariables false
set_option linter.unusedSimpArgs false
set_option linter.unnecessarySimpa false
namespace Go.Proofs.Ytedhldcoddbbdaa.F
open Go.RowKit Go.Proofs.Ytedhldcoddbbdaa.K Go.Shelf
attribute [local go_sem] Oper.semAt_some
section scope
variable {P : Program} {F : Fence} {n : Nat} {b : Frame} {a : Act} {k : List Item} {cs : List Frame} {w : World} {Q : Exit → Act → World → Prop}
theorem stepR_scope {c : Code} : step P (lone (b.atR a (.code (.scope c) :: k)) cs w) = .next (lone (b.atR a (.code c :: .inScope c :: k)) cs w) :=
  step_lone_go (by simp [stepG, stepG.exec, Frame.atR])
theorem stepR_inScope {c : Code} : step P (lone (b.atR a (.inScope c :: k)) cs w) = .next (lone (b.atR a k) cs w) :=
  step_lone_go (by simp [stepG, stepG.exec, Frame.atR])
/-- a scope that no goto leaves -/
theorem wpIn_scope {c : Code} (h : c.wpIn F n P (Exit.noGoto Q) a w) : (Code.scope c).wpIn F n P Q a w := by
  intro b k cs hro hb hr
  have h0 : (lone (b.atR a (.code (.scope c) :: k)) cs w).fenced P F := fenced_calm hb hr rfl
  obtain ⟨e, a1, w1, hq, harr⟩ := h b (.inScope c :: k) cs hro hb hr
  cases e with
  | normal => exact ⟨.normal, a1, w1, hq, .head h0 stepR_scope (StepsIn.trans harr (.one (fenced_calm hb hr rfl) stepR_inScope))⟩
  | exit id => exact ⟨.exit id, a1, w1, hq, .of_steps (.one h0 stepR_scope) ⟨fun k' hk => harr.1 k' (by simp [exitTo, hk]), fun hr' hk => harr.2 hr' (by simp [exitTo, hk])⟩⟩
  | goto l => exact hq.elim
  | ret => exact ⟨_, a1, w1, hq, .of_steps (.one h0 stepR_scope) harr⟩
  | panic ch => exact ⟨_, a1, w1, hq, .of_steps (.one h0 stepR_scope) harr⟩
  | outgrown => exact ⟨_, a1, w1, hq, .of_steps (.one h0 stepR_scope) harr⟩
end scope
/-- where the iterator has come to its end -/
def EachS (g : Nat) (d : Ln) (bs : List (BitVec 8)) (xs : List Fv) (W : World) : Prop := xs.map Fv.fr = (feedL d bs).2 ∧ ∃ u, LnAt W g (feedL d bs).1 u
/-- where it has been left -/
def EachX (g : Nat) (d : Ln) (bs : List (BitVec 8)) (xs : List Fv) (W : World) : Prop := ∃ p q x xs0, bs = p ++ 126#8 :: q ∧ xs = xs0 ++ [x] ∧ xs0.map Fv.fr = (feedL d p).2 ∧ (feedL d (p ++ [126#8])).2 = (feedL d p).2 ++ [x.fr] ∧ ∃ u, LnAt W g (feedL d (p ++ [126#8])).1 u
def lenAt (W : World) (bx : Nat) : Nat := match W.cell? ⟨bx, 0, none⟩ with | some (.slice _ n _) => n | _ => 0
theorem EI.len {T : List Nat} {g bl bx : Nat} {d : Ln} {bs : List (BitVec 8)} {B : Nat} {J : List Fv → World → Prop} {k : Nat} {w : World} (h : EI T g bl bx d bs B J k w) : lenAt w bx = (bs.drop k).length := by
  obtain ⟨x, q1, q2, -⟩ := h.cur
  obtain ⟨A', cap', hx, -⟩ := q2.at_
  unfold lenAt
  rw [show w.cell? ⟨bx, 0, none⟩ = some x from cell_of_row _ _ _ _ _ _ q1, hx]
theorem feedL_next (d : Ln) (bs : List (BitVec 8)) (k : Nat) (hk : k < bs.length) (xs : List Fv) (f : Int × List (BitVec 8)) (h : xs.map Fv.fr = (feedL d (bs.take k)).2) (hs : (stepL (feedL d (bs.take k)).1 bs[k]).2 = some f) : xs.map Fv.fr ++ [f] = (feedL d bs).2.take (xs.length + 1) := by
  have h1 := feedL_take d bs k hk
  rw [hs] at h1
  have h2 : (feedL d bs).2 = (feedL d (bs.take (k + 1))).2 ++ (feedL (feedL d (bs.take (k + 1))).1 (bs.drop (k + 1))).2 := by
    conv => lhs; rw [← List.take_append_drop (k + 1) bs]
    rw [feedL_append]
  have h3 : (feedL d (bs.take (k + 1))).2 = xs.map Fv.fr ++ [f] := by rw [h1, h]; rfl
  rw [h2, h3, List.take_append_of_le_length (by simp), List.take_of_length_le (by simp)]
set_option maxRecDepth 100000 in
set_option maxHeartbeats 8000000 in
theorem each43 (F : Fence) (hF : F = Fence.wide) (nf : Nat) (hn : 1 ≤ nf) (T : List Nat) (g bl bx : Nat) (d : Ln) (bs : List (BitVec 8)) (B : Nat) (w : World) (hBw : B = w.heap.size) (hC : EC T g bl bx B) (hok : d.Ok)
    (h0 : ∀ W J, Below w.heap.size w W → J [] W → EI T g bl bx d bs B J 0 W) :
    SeqR F nf Try.prog 43 #[.pointer (some ⟨bl, 0, none⟩), .pointer (some ⟨bx, 0, none⟩)] Fv.enc (Rl g bx) (fun pre x A B => Gx g x A B ∧ pre.map Fv.fr ++ [x.fr] = (feedL d bs).2.take (pre.length + 1)) (Kp T g) (EachS g d bs) (EachX g d bs) bs.length w := fun ll J Jx W hW hJ hJx hY hJ0 => by
  have HI := Lib.hid (h0 W J hW hJ0)
  have HY := Lib.hid hY
  have HJ := Lib.hid hJ
  have HJx := Lib.hid hJx
  have HC := Lib.hid hC
  have HO := Lib.hid hok
  clear h0 hY hJ hJx hC hok hW hJ0
  have h43 : F.fn 43 := by rw [hF]; trivial
  have h44 : F.fn 44 := by rw [hF]; trivial
  have h45 : F.fn 45 := by rw [hF]; trivial
  have hro : F.round = none := by rw [hF]; rfl
  have HP := Lib.hid (fun (e : Ln) (v : Value) (c : BitVec 8) (W2 : World) (k1 : e.Ok) (k2 : LnAt W2 g e v) => (by rw [hF]; exact callsIn_wide.2 (put44 (w := W2) g e v c k1 k2) : CallsIn F (nf - 1) Try.prog 44 _ W2 _))
  have HE := Lib.hid (fun (e : Ln) (v : Value) (W2 : World) (k1 : e.Ok) (k2 : LnAt W2 g e v) => (by rw [hF]; exact callsIn_wide.2 (end45 (w := W2) g e v k1 k2) : CallsIn F (nf - 1) Try.prog 45 _ W2 _))
  clear hF
  have c1 : W.cell? ⟨bl, 0, none⟩ = some (.pointer (some ⟨g, 0, none⟩)) := cell_of_row _ _ _ _ _ _ HI.out.box
  refine callsIn_of_wp Try.func43 rfl h43 ?_ hro
  simp only [Try.ntmps43, List.size_toArray, List.length_cons, List.length_nil, Nat.reduceAdd, Nat.reduceSub, Array.replicate_succ, Array.replicate_zero, List.push_toArray, List.append_toArray, List.nil_append, List.cons_append]
  apply wpIn_scope
  gi_wp2_with fail
  apply wpIn_label
  gi_wp2_with fail
  clear c1
  gi_loopw [4] (fun _ wr => ∃ (k : Nat), k ≤ bs.length ∧ Hid (EI T g bl bx d bs B J k wr)) (fun _ wr => lenAt wr bx)
  case atStart => exact ⟨0, Nat.zero_le _, HI⟩
  case round =>
    clear HI
    obtain ⟨k, hk, HI⟩ := hrel
    have c1 : wr.cell? ⟨bl, 0, none⟩ = some (.pointer (some ⟨g, 0, none⟩)) := cell_of_row _ _ _ _ _ _ HI.out.box
    obtain ⟨v, h1, h2, h3⟩ := HI.out.cur
    have c2 : wr.cell? ⟨bx, 0, none⟩ = some v := cell_of_row _ _ _ _ _ _ h1
    have f2 : wr.frozen? ⟨bx, 0, none⟩ = false := frozen_of_row _ _ _ _ _ h1
    obtain ⟨L, hL⟩ : ∃ L, L = bs.drop k := ⟨_, rfl⟩
    rw [← hL] at h2
    obtain ⟨A, cap, rfl, k1, k2, k3, -⟩ := h2.at_
    have HB := Lib.hid h2
    have H1 := Lib.hid h1
    have H3 := Lib.hid h3
    have HLn : Hid (lenAt wr bx = L.length) := Lib.hid (by unfold lenAt; rw [c2])
    unfold maxLen at k2
    clear h1 h2 h3 k3
    by_cases hlt : k < bs.length
    · have HL : Hid (L = bs[k] :: bs.drop (k + 1)) := Lib.hid (by rw [hL]; exact List.drop_eq_getElem_cons hlt)
      have l0 : (0 : Int) < (L.length : Int) := by rw [HL.out]; simp only [List.length_cons]; omega
      have l1 : (1 : Int) ≤ (L.length : Int) := by omega
      obtain ⟨b, o, hA, d0⟩ := BytesAt.get HB.out (k := 0) (by omega)
      subst hA
      have hc0 : L[0]'(by omega) = bs[k] := by simp only [HL.out, List.getElem_cons_zero]
      rw [hc0, Nat.add_zero] at d0
      clear hc0 hL
      have HCC : Hid (bs[k] = bs[k]) := Lib.hid rfl
      obtain ⟨c, hc⟩ : ∃ c, c = bs[k] := ⟨_, rfl⟩
      rw [← hc] at d0
      have HCc := Lib.hid hc
      clear hc HCC
      have bne1 : bl ≠ bx := HC.out.lx
      have bne2 : bx ≠ bl := fun e => bne1 e.symm
      have HOk : Hid (feedL d (bs.take k)).1.Ok := Lib.hid (HO.out.feed _)
      have hdr : L.drop 1 = bs.drop (k + 1) := by rw [HL.out]; rfl
      have HMv : Hid (∀ o' c', (1 < L.length → o' = o + 1) → L.length - 1 ≤ c' → c' ≤ maxLen → ∃ u, EM T g bl bx bs B k wr u (feedL d (bs.take k)).1 (wr.setCell ⟨bx, 0, none⟩ (.slice (some ⟨b, o', none⟩) (L.length - 1) c'))) := Lib.hid (fun o' c' q1 q2 q3 => by
        have := BytesAt.tail HB.out 1 (by omega) o' c' q1 q2 q3
        rw [hdr] at this
        exact HI.out.move HC.out _ this (fun j e => H3.out j e))
      clear hdr
      by_cases hcap : cap = 1
      · subst hcap
        obtain ⟨u, hM⟩ := HMv.out o 0 (fun q => by omega) (by omega) (by unfold maxLen; omega)
        rw [show L.length - 1 = 0 by omega] at hM
        have HM := Lib.hid hM
        clear hM
        by_cases h126 : c = 126#8
        · subst h126
          gi_wp2_with (gi_at_call 45; refine (HE.out _ _ _ HOk.out HM.out.ln).mono ?_)
          rintro e w2 ⟨n, u2, okb, rfl, hs, hcase⟩
          have HS := Lib.hid hs
          have HM2 := Lib.hid (HM.out.lns HC.out hs)
          have hfin : stepL (feedL d (bs.take k)).1 bs[k] = (feedL d (bs.take k)).1.fin := by unfold stepL; rw [← HCc.out, if_pos rfl]
          have HFn := Lib.hid hfin
          clear hs hfin
          rcases hcase with ⟨rfl, h7, rfl, rfl⟩ | ⟨l, rfl, h7, h8⟩
          · have H7 := Lib.hid h7
            clear h7
            have HM3 := Lib.hid (HM2.out.below HC.out ((Below.refl _ w2).alloc (Nat.le_refl _) (.cells #[.int .i64 0, .slice none 0 0] 24)))
            have HEI : Hid (EI T g bl bx d bs B J (k + 1) (w2.alloc (.cells #[.int .i64 0, .slice none 0 0] 24))) := Lib.hid (HM3.out.fin hlt (by rw [HFn.out]) (by
              obtain ⟨xs, q1, q2⟩ := HI.out.told
              exact ⟨xs, by rw [HFn.out, H7.out, q1]; simp, HJ.out xs _ _ q2 HM3.out.rl⟩))
            gi_wp2
            refine ⟨(fun f e => nomatch e), ?_⟩
            gi_wp2
            go_roundw
            case rel => exact ⟨k + 1, by omega, HEI⟩
            case measure =>
              rw [EI.len HEI.out, HLn.out, HL.out]
              simp only [List.length_cons, List.length_drop]
              omega
          · obtain ⟨A2, cp2, rfl, -, -⟩ := Row.slice h8
            have HM3 := Lib.hid (HM2.out.below HC.out ((Below.refl _ w2).alloc (Nat.le_refl _) (.cells #[.int .i64 n, .slice A2 l.length cp2] 24)))
            obtain ⟨xs, q1, q2⟩ := HI.out.told
            have HQ1 := Lib.hid q1
            have hY := HY.out xs ⟨n, .slice A2 l.length cp2, l⟩ wr _ q2 HM3.out.rl ⟨⟨(h8.below ((Below.refl _ w2).alloc (Nat.le_refl _) (.cells #[.int .i64 n, .slice A2 l.length cp2] 24))).weak (by simp [World.setCell]), by rw [HM3.out.ln.rowOf]; rfl⟩, feedL_next d bs k hlt xs _ HQ1.out (by rw [HFn.out, h7]; rfl)⟩ (by have e := congrArg List.length HQ1.out; rw [List.length_map] at e; have := feedL_len d (bs.take k); rw [List.length_take] at this; omega)
            obtain ⟨fn, tmps, assign, body, hy, hR⟩ := hY
            unfold Fv.enc at hy
            dsimp only at hy
            have H7 := Lib.hid h7
            clear h7 h8 q1 q2
            gi_wp2
            refine hR.mono ?_
            rintro e W4 ⟨hk4, ⟨rfl, hJ4⟩ | ⟨rfl, hJx4⟩⟩
            · have HEI : Hid (EI T g bl bx d bs B J (k + 1) W4) := Lib.hid ((HM3.out.fin (J := fun _ _ => True) hlt (by rw [HFn.out]) ⟨xs ++ [⟨n, .slice A2 l.length cp2, l⟩], by rw [HFn.out, H7.out, List.map_append, HQ1.out]; rfl, trivial⟩).round HC.out hk4 ⟨_, by rw [feedL_take d bs k hlt, HFn.out, H7.out, List.map_append, HQ1.out]; rfl, hJ4⟩)
              clear hk4 hJ4 hR hy
              gi_wp2
              go_roundw
              case rel => exact ⟨k + 1, by omega, HEI⟩
              case measure =>
                rw [EI.len HEI.out, HLn.out, HL.out]
                simp only [List.length_cons, List.length_drop]
                omega
            · have HLN := Lib.hid (HM3.out.ln.kept HC.out.mg hk4)
              have HX := Lib.hid hJx4
              clear hk4 hJx4 hR hy
              gi_wp2
              simp only [Exit.noGoto]
              go_end0
              exact ⟨⟨_, rfl⟩, .inr ⟨_, ⟨bs.take k, bs.drop (k + 1), _, xs, by rw [HCc.out, ← List.drop_eq_getElem_cons hlt, List.take_append_drop], rfl, HQ1.out, by rw [feedL_snoc]; unfold stepL; rw [if_pos rfl, H7.out]; rfl, _, by rw [feedL_snoc]; unfold stepL; rw [if_pos rfl]; exact HLN.out⟩, HX.out⟩⟩
        · have hne : (v8 c == 126) = false := v8_ne (b := 126#8) h126
          have hne2 : (v8 c != 126) = true := by simp only [bne, hne, Bool.not_false]
          gi_wp2_with (gi_at_call 44; refine (HP.out _ _ _ _ HOk.out HM.out.ln).mono ?_)
          rintro e w2 ⟨rfl, u2, hs⟩
          have HM2 := Lib.hid (HM.out.lns HC.out hs)
          clear hs
          have HEI : Hid (EI T g bl bx d bs B J (k + 1) w2) := Lib.hid (HM2.out.fin hlt (by unfold stepL; rw [← HCc.out, if_neg h126]) (by
            obtain ⟨xs, q1, q2⟩ := HI.out.told
            exact ⟨xs, by unfold stepL; rw [← HCc.out, if_neg h126, q1]; simp, HJ.out xs _ _ q2 HM2.out.rl⟩))
          gi_wp2
          go_roundw
          case rel => exact ⟨k + 1, by omega, HEI⟩
          case measure =>
            rw [EI.len HEI.out, HLn.out, HL.out]
            simp only [List.length_cons, List.length_drop]
            omega
      · obtain ⟨u, hM⟩ := HMv.out (o + 1) (cap - 1) (fun q => rfl) (by omega) (by unfold maxLen; omega)
        have HM := Lib.hid hM
        clear hM
        by_cases h126 : c = 126#8
        · subst h126
          gi_wp2_with (gi_at_call 45; refine (HE.out _ _ _ HOk.out HM.out.ln).mono ?_)
          rintro e w2 ⟨n, u2, okb, rfl, hs, hcase⟩
          have HS := Lib.hid hs
          have HM2 := Lib.hid (HM.out.lns HC.out hs)
          have hfin : stepL (feedL d (bs.take k)).1 bs[k] = (feedL d (bs.take k)).1.fin := by unfold stepL; rw [← HCc.out, if_pos rfl]
          have HFn := Lib.hid hfin
          clear hs hfin
          rcases hcase with ⟨rfl, h7, rfl, rfl⟩ | ⟨l, rfl, h7, h8⟩
          · have H7 := Lib.hid h7
            clear h7
            have HM3 := Lib.hid (HM2.out.below HC.out ((Below.refl _ w2).alloc (Nat.le_refl _) (.cells #[.int .i64 0, .slice none 0 0] 24)))
            have HEI : Hid (EI T g bl bx d bs B J (k + 1) (w2.alloc (.cells #[.int .i64 0, .slice none 0 0] 24))) := Lib.hid (HM3.out.fin hlt (by rw [HFn.out]) (by
              obtain ⟨xs, q1, q2⟩ := HI.out.told
              exact ⟨xs, by rw [HFn.out, H7.out, q1]; simp, HJ.out xs _ _ q2 HM3.out.rl⟩))
            gi_wp2
            refine ⟨(fun f e => nomatch e), ?_⟩
            gi_wp2
            go_roundw
            case rel => exact ⟨k + 1, by omega, HEI⟩
            case measure =>
              rw [EI.len HEI.out, HLn.out, HL.out]
              simp only [List.length_cons, List.length_drop]
              omega
          · obtain ⟨A2, cp2, rfl, -, -⟩ := Row.slice h8
            have HM3 := Lib.hid (HM2.out.below HC.out ((Below.refl _ w2).alloc (Nat.le_refl _) (.cells #[.int .i64 n, .slice A2 l.length cp2] 24)))
            obtain ⟨xs, q1, q2⟩ := HI.out.told
            have HQ1 := Lib.hid q1
            have hY := HY.out xs ⟨n, .slice A2 l.length cp2, l⟩ wr _ q2 HM3.out.rl ⟨⟨(h8.below ((Below.refl _ w2).alloc (Nat.le_refl _) (.cells #[.int .i64 n, .slice A2 l.length cp2] 24))).weak (by simp [World.setCell]), by rw [HM3.out.ln.rowOf]; rfl⟩, feedL_next d bs k hlt xs _ HQ1.out (by rw [HFn.out, h7]; rfl)⟩ (by have e := congrArg List.length HQ1.out; rw [List.length_map] at e; have := feedL_len d (bs.take k); rw [List.length_take] at this; omega)
            obtain ⟨fn, tmps, assign, body, hy, hR⟩ := hY
            unfold Fv.enc at hy
            dsimp only at hy
            have H7 := Lib.hid h7
            clear h7 h8 q1 q2
            gi_wp2
            refine hR.mono ?_
            rintro e W4 ⟨hk4, ⟨rfl, hJ4⟩ | ⟨rfl, hJx4⟩⟩
            · have HEI : Hid (EI T g bl bx d bs B J (k + 1) W4) := Lib.hid ((HM3.out.fin (J := fun _ _ => True) hlt (by rw [HFn.out]) ⟨xs ++ [⟨n, .slice A2 l.length cp2, l⟩], by rw [HFn.out, H7.out, List.map_append, HQ1.out]; rfl, trivial⟩).round HC.out hk4 ⟨_, by rw [feedL_take d bs k hlt, HFn.out, H7.out, List.map_append, HQ1.out]; rfl, hJ4⟩)
              clear hk4 hJ4 hR hy
              gi_wp2
              go_roundw
              case rel => exact ⟨k + 1, by omega, HEI⟩
              case measure =>
                rw [EI.len HEI.out, HLn.out, HL.out]
                simp only [List.length_cons, List.length_drop]
                omega
            · have HLN := Lib.hid (HM3.out.ln.kept HC.out.mg hk4)
              have HX := Lib.hid hJx4
              clear hk4 hJx4 hR hy
              gi_wp2
              simp only [Exit.noGoto]
              go_end0
              exact ⟨⟨_, rfl⟩, .inr ⟨_, ⟨bs.take k, bs.drop (k + 1), _, xs, by rw [HCc.out, ← List.drop_eq_getElem_cons hlt, List.take_append_drop], rfl, HQ1.out, by rw [feedL_snoc]; unfold stepL; rw [if_pos rfl, H7.out]; rfl, _, by rw [feedL_snoc]; unfold stepL; rw [if_pos rfl]; exact HLN.out⟩, HX.out⟩⟩
        · have hne : (v8 c == 126) = false := v8_ne (b := 126#8) h126
          have hne2 : (v8 c != 126) = true := by simp only [bne, hne, Bool.not_false]
          gi_wp2_with (gi_at_call 44; refine (HP.out _ _ _ _ HOk.out HM.out.ln).mono ?_)
          rintro e w2 ⟨rfl, u2, hs⟩
          have HM2 := Lib.hid (HM.out.lns HC.out hs)
          clear hs
          have HEI : Hid (EI T g bl bx d bs B J (k + 1) w2) := Lib.hid (HM2.out.fin hlt (by unfold stepL; rw [← HCc.out, if_neg h126]) (by
            obtain ⟨xs, q1, q2⟩ := HI.out.told
            exact ⟨xs, by unfold stepL; rw [← HCc.out, if_neg h126, q1]; simp, HJ.out xs _ _ q2 HM2.out.rl⟩))
          gi_wp2
          go_roundw
          case rel => exact ⟨k + 1, by omega, HEI⟩
          case measure =>
            rw [EI.len HEI.out, HLn.out, HL.out]
            simp only [List.length_cons, List.length_drop]
            omega
    · obtain rfl : k = bs.length := by omega
      have hl : L = [] := by rw [hL]; simp
      subst hl
      clear hL
      simp only [List.length_nil] at c2 k1
      have HE2 : Hid (∃ xs, EachS g d bs xs wr ∧ J xs wr) := Lib.hid (by
        obtain ⟨-, -, -, ⟨u, h6, -⟩, ⟨xs, h8, h9⟩⟩ := HI.out
        rw [List.take_length] at h6 h8
        exact ⟨xs, ⟨h8, u, h6⟩, h9⟩)
      gi_wp2_with fail
      simp only [Exit.noGoto]
      go_end0
      obtain ⟨xs, h5, h6⟩ := HE2.out
      exact ⟨⟨_, rfl⟩, .inl ⟨xs, h5, h6⟩⟩
/-- at a line that is not there -/
theorem each43_nil {F : Fence} {nf : Nat} {bl bx N : Nat} {R K : World → World → Prop} {G : List Fv → Fv → World → World → Prop} {w : World} (h43 : F.fn 43) (hro : F.round = none) (h : w.heap[bl]? = some (.cells #[.pointer none] 46 (0, 0))) :
    SeqR F nf Try.prog 43 #[.pointer (some ⟨bl, 0, none⟩), .pointer (some ⟨bx, 0, none⟩)] Fv.enc R G K (fun xs _ => xs = []) (fun _ _ => False) N w := fun ll J Jx W hW hJ hJx hY hJ0 => by
  have c1 : W.cell? ⟨bl, 0, none⟩ = some (.pointer none) := cell_of_row _ _ _ _ _ _ ((hW.block bl (Array.getElem?_eq_some_iff.1 h).1).trans h)
  clear hY hJ hJx hW h
  refine callsIn_of_wp Try.func43 rfl h43 ?_ hro
  simp only [Try.ntmps43, List.size_toArray, List.length_cons, List.length_nil, Nat.reduceAdd, Nat.reduceSub, Array.replicate_succ, Array.replicate_zero, List.push_toArray, List.append_toArray, List.nil_append, List.cons_append]
  apply wpIn_scope
  gi_wp2_with fail
  simp only [Exit.noGoto]
  refine bodyPost_ret (results_none rfl _ _ _) rfl ?_
  exact ⟨⟨_, rfl⟩, .inl ⟨[], rfl, hJ0⟩⟩
end Go.Proofs.Ytedhldcoddbbdaa.F
