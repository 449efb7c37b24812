/- A policy, as plain numbers: what both packages compute. -/
import Derived.Test.YtibdaonhldlmbaaK
set_option linter.unusedVariables false
set_option linter.unusedSimpArgs false
namespace Go.Proofs.Ytibdaonhldlmbaa.F
open Go.RowKit
structure Pol where
  de : Bool
  pe : Bool
  ho : Int
  id : Int
  se : Int
  mf : Int
  now : Int
  up : Int
  la : Int
  en : Int
  st : Int
  wa : Bool
  fa : Int
  wy : Nat
/-- the words: 0 none, 1 session, 2 idle, 3 down, 4 failed, 5 lost -/
def whyS : Nat → ByteArray
  | 0 => { data := #[] }
  | 1 => { data := #[115, 101, 115, 115, 105, 111, 110] }
  | 2 => { data := #[105, 100, 108, 101] }
  | 3 => { data := #[100, 111, 119, 110] }
  | 4 => { data := #[102, 97, 105, 108, 101, 100] }
  | _ => { data := #[108, 111, 115, 116] }
def ovr (now b s : Int) : Bool := decide (s ≤ wrap64 (now - b))
namespace Pol
def dial (p : Pol) : Pol × List Int := ({ p with st := 2 }, [1])
def hang (p : Pol) (k : Nat) : Pol × List Int := ({ p with st := 4, wa := false, wy := k }, [2])
def held (p : Pol) : Pol × List Int := if p.wa then p.dial else ({ p with st := 0 }, [])
def want (p : Pol) : Pol × List Int := { p with wa := true }.dial
def tired (p : Pol) : Nat := if decide (0 < p.se) && ovr p.now p.up p.se then 1 else if decide (0 < p.id) && ovr p.now p.la p.id then 2 else 0
def due1 (p : Pol) : Pol × List Int := if p.tired = 0 then (p, []) else p.hang p.tired
def due2 (p : Pol) : Pol × List Int := if ovr p.now p.en p.ho then p.held else (p, [])
def due (p : Pol) : Pol × List Int := if p.st = 3 then p.due1 else if p.st = 1 then p.due2 else (p, [])
def start1 (p : Pol) : Pol × List Int := if p.de then (p, []) else p.want
def packet1 (p : Pol) : Pol × List Int := ({ p with la := p.now }, [])
def packet2 (p : Pol) : Pol × List Int := if p.de then (if p.st = 0 then p.want else ({ p with wa := true }, [])) else (p, [])
def up1 (p : Pol) : Pol × List Int :=
  if p.st = 0 then { p with fa := 0, wa := true }.dial else if p.st = 5 then (if ovr p.now p.en p.ho then { p with fa := 0, wa := true, st := 1 }.held else ({ p with fa := 0, wa := true, st := 1 }, [])) else ({ p with fa := 0, wa := true }, [])
def down1 (p : Pol) : Pol × List Int := p.hang 3
def down2 (p : Pol) : Pol × List Int := ({ p with wa := false }, [])
def lup1 (p : Pol) : Pol × List Int := ({ p with st := 3, fa := 0, wy := 0, up := p.now, la := p.now }, [])
def fin (p : Pol) : Pol × List Int := if p.ho = 0 then { p with st := 1 }.held else ({ p with st := 1 }, [])
def failed (p : Pol) : Pol := { p with en := p.now, fa := min (p.fa + 1) 2147483647, wy := 4 }
def ldown1 (p : Pol) : Pol × List Int :=
  if p.st = 2 then (if 0 < p.mf ∧ p.mf ≤ p.failed.fa then ({ p.failed with st := 5, wa := false }, []) else p.failed.fin)
  else if p.st = 3 then { p with en := p.now, wy := 5, wa := p.pe }.fin
  else if p.st = 4 then { p with en := p.now, wa := p.wa || (p.pe && (p.wy != 3)) }.fin
  else { p with en := p.now }.fin
end Pol
/-- the closures, by their functions' numbers -/
def clo (n : Nat) (p : Pol) : Pol × List Int :=
  if n = 58 then p.due1 else if n = 60 then p.due2 else if n = 46 then p.start1 else if n = 40 then p.packet1 else if n = 41 then p.packet2 else if n = 47 then p.up1
  else if n = 50 then p.down1 else if n = 52 then p.down2 else if n = 43 then p.lup1 else p.ldown1
/-- which of some calls there is in a state -/
def pick (st : Int) : List (List Int × Nat) → Option Nat
  | [] => none
  | c :: r => if c.1.contains st then some c.2 else pick st r
def does (cs : List (List Int × Nat)) (p : Pol) : Pol × List Int := match pick p.st cs with | none => (p, []) | some n => clo n p
def atC (cs : List (List Int × Nat)) (now : Int) (p : Pol) : Pol × List Int × Int :=
  if now < 0 ∨ 1099511627776 < now ∨ now < p.now then (p, [], 1) else
  let q := { p with now := now }
  ((does cs q.due.1).1, q.due.2 ++ (does cs q.due.1).2, 0)
def csOf (k : Int) (m : Bool) : List (List Int × Nat) :=
  if k = 0 then [([0], 46)] else if k = 1 then (if m then [([3], 40), ([0, 1, 4], 41)] else []) else if k = 2 then [([0, 1, 4, 5], 47)] else if k = 3 then [([2, 3], 50), ([0, 1, 4, 5], 52)] else if k = 4 then [([2], 43)] else if k = 5 then [([2, 3, 4], 44)] else []
end Go.Proofs.Ytibdaonhldlmbaa.F
