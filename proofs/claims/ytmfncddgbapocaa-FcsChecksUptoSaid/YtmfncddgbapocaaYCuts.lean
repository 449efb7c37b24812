import Derived.Test.YtmfncddgbapocaaY0
import Derived.Outline
set_option linter.unusedVariables false
set_option linter.unusedSimpArgs false
namespace Go.Proofs.Ytmfncddgbapocaa.F
open Go.RowKit Go.Proofs.Ytmfncddgbapocaa.K
def cutK (l : List (BitVec 8)) (n : Nat) (g : Bool) : Int := if l.length < n then 8 else if g then 0 else 20
def cutL (l : List (BitVec 8)) (n : Nat) (g : Bool) : List (BitVec 8) := if l.length < n then [] else if g then l.take (l.length - n) else []
theorem own_nil' (w : World) (base : Nat) : w.ownsRow base 5 1 (.slice none 0 0) ([] : List (BitVec 8)).length (([] : List (BitVec 8)).map b8) := World.ownsRow_nil w base 5 1
theorem CutR.fn {w w' : World} {l : List (BitVec 8)} {n : Nat} {g : Bool} {e : Ending} (h : CutR w w' l n g e) :
    ∃ u, e = .returned (.tuple #[u, .int .i64 (cutK l n g)]) ∧ Below w.heap.size w w' ∧ w'.ownsRow w.heap.size 5 1 u (cutL l n g).length ((cutL l n g).map b8) := by
  obtain ⟨u, k, rfl, hb, ⟨h1, rfl, rfl⟩ | ⟨h1, rfl, rfl, rfl⟩ | ⟨h1, rfl, rfl, ho⟩⟩ := h
  · exact ⟨.slice none 0 0, by simp [cutK, h1], hb, by simpa [cutL, h1] using own_nil' w' _⟩
  · exact ⟨.slice none 0 0, by simp [cutK, show ¬ l.length < n by omega], hb, by simpa [cutL, show ¬ l.length < n by omega] using own_nil' w' _⟩
  · refine ⟨u, by simp [cutK, show ¬ l.length < n by omega], hb, ?_⟩
    have e : cutL l n true = l.take (l.length - n) := by simp [cutL, show ¬ l.length < n by omega]
    rw [e, List.length_take, Nat.min_eq_left (by omega)]
    exact ho
theorem RefCutR.fn {w : World} {l : List (BitVec 8)} {n : Nat} {g : Bool} {e : Ending} (h : RefCutR w l n g e) :
    ∃ u, e = .returned (.tuple #[u, .int .i64 (cutK l n g)]) ∧ BytesAt w u (cutL l n g) := by
  obtain ⟨u, k, rfl, ⟨h1, rfl, rfl⟩ | ⟨h1, rfl, rfl, rfl⟩ | ⟨h1, rfl, rfl, ho⟩⟩ := h
  · exact ⟨.slice none 0 0, by simp [cutK, h1], by simpa [cutL, h1] using BytesAt.nil w⟩
  · exact ⟨.slice none 0 0, by simp [cutK, show ¬ l.length < n by omega], by simpa [cutL, show ¬ l.length < n by omega] using BytesAt.nil w⟩
  · exact ⟨u, by simp [cutK, show ¬ l.length < n by omega], by simpa [cutL, show ¬ l.length < n by omega] using ho⟩
theorem refCut16 (l : List (BitVec 8)) (v : Value) (w : World) (h : BytesAt w v l) : Calls Try.prog 19 #[v, .bool false] w fun e w' => w' = w ∧ RefCutR w l 2 (good16 l) e := refCut l v false w h
theorem refCut32 (l : List (BitVec 8)) (v : Value) (w : World) (h : BytesAt w v l) : Calls Try.prog 19 #[v, .bool true] w fun e w' => w' = w ∧ RefCutR w l 4 (good32 l) e := refCut l v true w h
theorem spoilR {base : Nat} {v : Value} {n : Nat} {xs : List Value} {w : World} (h : w.ownsRow base 5 1 v n xs) :
  Calls Try.prog 22 #[v] w fun e w' => e = .returned (.tuple #[]) ∧ w.grownBy w' v.ownBlock := spoil base v n xs w h
/-- what lies below what is spoilt -/
theorem below_spoil {w w1 w2 : World} {B base : Nat} {e : TypeId} {s n : Nat} {v : Value} {xs : List Value} (h : Below B w w1) (ho : w1.ownsRow base e s v n xs) (hB : B ≤ base) (hB2 : B ≤ w1.heap.size) (hg : w1.grownBy w2 v.ownBlock) : Below B w w2 :=
  h.grown hg hB2 (fun k hk => Nat.le_trans hB (ho.lt k hk).1)
set_option maxHeartbeats 1000000 in
theorem law_cuts (l : List (BitVec 8)) (v : Value) (w : World) (h : BytesAt w v l) (hl : l.length ≤ 140737488351232) : Calls Try.prog 5 #[v] w fun e w' => e = .returned (.bool true) ∧ Below w.heap.size w w' := by
  go_enter Try.func5, Try.ntmps5
  go_wp2_with fail
  refine (lent l v w h hl).mono ?_
  rintro e w1 ⟨u, rfl, L, B1⟩
  go_wp2_with fail
  refine (cut16 l u w1 L.bytes (by omega)).mono ?_
  rintro e w2 hr
  obtain ⟨x, rfl, b2, ox⟩ := hr.fn
  clear hr
  go_wp2_with fail
  refine (refCut16 l v w2 (h.below (below_then B1 b2))).mono ?_
  rintro e w2' ⟨hw, hr⟩
  subst hw
  obtain ⟨y, rfl, hy⟩ := hr.fn
  clear hr
  go_wp2_with fail
  refine (cut32 l u _ (L.below b2).bytes (by omega)).mono ?_
  rintro e w3 hr
  obtain ⟨z, rfl, b3, oz⟩ := hr.fn
  clear hr
  go_wp2_with fail
  refine (refCut32 l v w3 (h.below (below_then (below_then B1 b2) b3))).mono ?_
  rintro e w3' ⟨hw, hr⟩
  subst hw
  obtain ⟨y2, rfl, hy2⟩ := hr.fn
  clear hr
  go_wp2_with fail
  refine (same _ _ x y _ ((bytes_of_own ox).below b3) (hy.below b3)).mono ?_
  rintro e w3'' ⟨rfl, hw⟩
  subst hw
  go_wp2_with fail
  refine (same _ _ z y2 _ (bytes_of_own oz) hy2).mono ?_
  rintro e w3'' ⟨rfl, hw⟩
  subst hw
  go_wp2_with fail
  refine (spoilR (own_below ox b3)).mono ?_
  rintro e w4 ⟨rfl, g4⟩
  have B4 := below_spoil (below_then (below_then B1 b2) b3) (own_below ox b3) B1.size (below_then (below_then B1 b2) b3).size g4
  have C4 := below_spoil (below_then b2 b3) (own_below ox b3) (Nat.le_refl _) (below_then b2 b3).size g4
  have oz4 := oz.kept g4 (by
    cases hx : x.ownBlock with
    | none => cases z.ownBlock <;> simp
    | some k =>
      have k1 := (ox.lt k hx).2
      cases hz : z.ownBlock with
      | none => simp
      | some j =>
        have k2 := (oz.lt j hz).1
        right; simp; omega)
  go_wp2_with fail
  refine (spoilR oz4).mono ?_
  rintro e w5 ⟨rfl, g5⟩
  have B5 := below_spoil B4 oz4 (below_then B1 b2).size B4.size g5
  have C5 := below_spoil C4 oz4 b2.size C4.size g5
  go_wp2_with fail
  refine (kept l u v _ _ (L.below C5) (h.below B5)).mono ?_
  rintro e w5' ⟨rfl, hw⟩
  subst hw
  go_wp2_with fail
  refine (awake _).mono ?_
  rintro e w6 ⟨rfl, b6⟩
  go_wp2
  go_ret
  exact ⟨rfl, below_then B5 b6⟩
end Go.Proofs.Ytmfncddgbapocaa.F
