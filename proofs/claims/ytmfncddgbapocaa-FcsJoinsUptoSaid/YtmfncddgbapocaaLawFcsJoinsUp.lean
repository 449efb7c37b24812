/- The law FcsJoins answers true for every input of bulk at most 1048576, and its arguments read behind the call as before. -/
import Derived.Test.YtmfncddgbapocaaRows
import Derived.Test.YtmfncddgbapocaaR
import Derived.Test.YtmfncddgbapocaaRU
import Derived.Test.YtmfncddgbapocaaYJoins
import Derived.WalkKit
import Derived.ProofKit
import Derived.OpenShut
import Derived.ShutString
import Derived.ChangeOld
import Derived.Below
import Derived.SizedLaws
import Derived.JoinedCond
import Derived.Deep.CondSized
set_option linter.unusedVariables false
namespace Go.Proofs.Ytmfncddgbapocaa.fcsJoinsUp
open Go.ChangeShapes Go.WideShapes Go.ChangeAt Go.RowKit Go.Proofs.Ytmfncddgbapocaa.K
open Go.ChangeMaps (open_string shut_string)
theorem own : ownKnob Try.prog.godebug = none := by kernel_rfl
theorem laidOut : laidOutB Try.prog = true := by kernel_rfl
set_option maxRecDepth 100000 in
theorem lifted (os : Os) (started : os.Started) (H : Type) (enc : TypeId × Value → H) (F : Stop.Interp) :
    ReturnsInHanded {} Try.checked os 6 .any ((Rows.OpenSpec.upto Rows.fcsJoinsSpec).pre6 enc Try.prog Try.f6 Rows.fcsJoinsUptoRow.domain false) (((Rows.OpenSpec.upto Rows.fcsJoinsSpec).at F).post enc Try.prog Try.f6 false true false false) := by
  refine returnsInHanded_of_cond_sized (C := Try.checked) (s := Rows.OpenSpec.upto Rows.fcsJoinsSpec) (k := Rows.uptoSmall) rfl own started (by kernel_rfl) Try.func6
    (OpenSpec.witness (enc := enc) (C := Try.checked) (s := Rows.OpenSpec.upto Rows.fcsJoinsSpec) (k := Rows.uptoSmall) rfl false ⟨#[], #[.slice none 0 0, .slice none 0 0, .slice none 0 0, .int .i64 0, .int .u32 0, .int .u32 0], []⟩ 8 (by kernel_rfl) (by kernel_rfl) (by kernel_rfl)
      (x := ([.nil, .nil, .nil, .lit (.int .i64 0), .lit (.int .u32 0), .lit (.int .u32 0)], [], [])) (by kernel_rfl) rfl (by kernel_rfl)) ?_
  intro W base args ds gs before hval0 hW hcnd hk hsz0 _
  have hsz : (DataW.weightsEach Try.prog (Try.f6.params.toList ++ Rows.fcsJoinsSpec.plain.varTypes Try.prog) (ds ++ gs)).all (· ≤ reachBytes) = true := hsz0
  have hval : ∀ (j : Nat) t v, Try.f6.params[j]? = some t → args[j]? = some v → Value.okWide Try.prog W .any base t v := hval0
  have hW' := hW
  obtain ⟨p, q, hA0, hV, rfl, hfz, hnd⟩ := hW
  have hA : DataW.TrodAll enc Try.prog W 0 (fun _ => true) true Try.f6.params.toList args.toList ds p := hA0
  rw [Try.params6] at hA hval hsz
  obtain ⟨v0, vs0, d0, ds0, p0, q0, hargs, rfl, rfl, h0, r0⟩ := trodAll_cons hA
  obtain ⟨v1, vs1, d1, ds1, p1, q1, rfl, rfl, rfl, h1, r1⟩ := trodAll_cons r0
  obtain ⟨v2, vs2, d2, ds2, p2, q2, rfl, rfl, rfl, h2, r2⟩ := trodAll_cons r1
  obtain ⟨v3, vs3, d3, ds3, p3, q3, rfl, rfl, rfl, h3, r3⟩ := trodAll_cons r2
  obtain ⟨v4, vs4, d4, ds4, p4, q4, rfl, rfl, rfl, h4, r4⟩ := trodAll_cons r3
  obtain ⟨v5, vs5, d5, ds5, p5, q5, rfl, rfl, rfl, h5, r5⟩ := trodAll_cons r4
  obtain ⟨rfl, rfl, rfl⟩ := trodAll_nil r5
  obtain rfl : args = #[v0, v1, v2, v3, v4, v5] := by cases args; simp_all
  obtain ⟨rfl, rfl⟩ := trodVars_none hV
  have s0 := okWide_slice Try.underlying22 (hval 0 22 v0 rfl rfl)
  have k0 := h0
  have lt0 : ∀ x ∈ p0, x.block < W.heap.size := by obtain ⟨m, hm⟩ := k0; exact DataW.trod_lt m _ _ _ hm
  obtain ⟨l0, hb0, hl0⟩ := R.open_bytes hsz (j := 0) rfl rfl Try.underlying22 Try.underlying5 (by kernel_rfl) (by kernel_rfl) s0 h0
  have s1 := okWide_slice Try.underlying22 (hval 1 22 v1 rfl rfl)
  have k1 := h1
  have lt1 : ∀ x ∈ p1, x.block < W.heap.size := by obtain ⟨m, hm⟩ := k1; exact DataW.trod_lt m _ _ _ hm
  obtain ⟨l1, hb1, hl1⟩ := R.open_bytes hsz (j := 1) rfl rfl Try.underlying22 Try.underlying5 (by kernel_rfl) (by kernel_rfl) s1 h1
  have s2 := okWide_slice Try.underlying22 (hval 2 22 v2 rfl rfl)
  have k2 := h2
  have lt2 : ∀ x ∈ p2, x.block < W.heap.size := by obtain ⟨m, hm⟩ := k2; exact DataW.trod_lt m _ _ _ hm
  obtain ⟨l2, hb2, hl2⟩ := R.open_bytes hsz (j := 2) rfl rfl Try.underlying22 Try.underlying5 (by kernel_rfl) (by kernel_rfl) s2 h2
  obtain ⟨a3, rfl, rfl, rfl, w3⟩ := open_int Try.underlying2 (hval 3 2 v3 rfl rfl) h3
  obtain ⟨a4, rfl, rfl, rfl, w4⟩ := open_int Try.underlying23 (hval 4 23 v4 rfl rfl) h4
  obtain ⟨a5, rfl, rfl, rfl, w5⟩ := open_int Try.underlying23 (hval 5 23 v5 rfl rfl) h5
  have hup : Rows.uptoBulkAll _ ≤ 1048576 := of_decide_eq_true hk
  have u0 : l0.length ≤ Rows.uptoBulk d0 := by
    obtain ⟨A, c, e, -⟩ := hb0
    have kk := k0
    rw [e] at kk
    exact R.bulk_bytes Try.underlying22 Try.underlying5 (by kernel_rfl) kk
  have u1 : l1.length ≤ Rows.uptoBulk d1 := by
    obtain ⟨A, c, e, -⟩ := hb1
    have kk := k1
    rw [e] at kk
    exact R.bulk_bytes Try.underlying22 Try.underlying5 (by kernel_rfl) kk
  have u2 : l2.length ≤ Rows.uptoBulk d2 := by
    obtain ⟨A, c, e, -⟩ := hb2
    have kk := k2
    rw [e] at kk
    exact R.bulk_bytes Try.underlying22 Try.underlying5 (by kernel_rfl) kk
  have hs : l0.length + l1.length + l2.length ≤ 1048576 := by
    simp [Rows.uptoBulkAll] at hup
    omega
  clear hup
  clear hA0 hval0 hsz0 hsz
  refine (_root_.Go.Proofs.Ytmfncddgbapocaa.F.law_joins l0 v0 l1 v1 l2 v2 a3 a4 a5 W hb0 hb1 hb2 w3 w4 w5 hs).mono fun e W' ⟨he, bel⟩ => ?_
  subst he
  exact ⟨_, rfl, _, _, _, [], _, [], hW', trodAll_mk1 (shut_bool Try.underlying4 _), (trodAll_cons_mk (Below.trod laidOut (by kernel_rfl) (of_decide_eq_true (by kernel_rfl)) k0 bel lt0) (trodAll_cons_mk (Below.trod laidOut (by kernel_rfl) (of_decide_eq_true (by kernel_rfl)) k1 bel lt1) (trodAll_cons_mk (Below.trod laidOut (by kernel_rfl) (of_decide_eq_true (by kernel_rfl)) k2 bel lt2) (trodAll_cons_mk (shut_int Try.underlying2 w3) (trodAll_cons_mk (shut_int Try.underlying23 w4) (trodAll_cons_mk (shut_int Try.underlying23 w5) trodAll_mk0)))))), rfl, bel.frame _, fun h => by cases h⟩
theorem over : Rows.fcsJoinsUptoRow.holds Try.pinned (Rows.OpenSpec.upto Rows.fcsJoinsSpec) :=
  OpenClaim.holds_of_cond 6 Try.f6 rfl rfl rfl rfl rfl rfl rfl ⟨rfl, rfl, rfl, rfl, rfl⟩ rfl rfl rfl rfl rfl (by kernel_rfl) Try.func6 (by kernel_rfl)
    (of_decide_eq_true (by kernel_rfl)) (by unfold Func.isWrapper; first | (rw [if_pos (by decide +kernel)]; kernel_rfl) | (rw [if_neg (by decide +kernel)]; exact ⟨rfl, rfl⟩))
    (fun os started H enc _ F => lifted os started H enc F)
theorem proved : Rows.FcsJoinsUptoSaid := over
#print axioms proved
end Go.Proofs.Ytmfncddgbapocaa.fcsJoinsUp
namespace Go.Proofs.Ytmfncddgbapocaa
/-- The row, under a short name, for the claim. -/
theorem fcsJoinsUp_holds : Rows.FcsJoinsUptoSaid := fcsJoinsUp.proved
end Go.Proofs.Ytmfncddgbapocaa
