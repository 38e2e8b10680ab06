/- Results: a letter's field is put. -/
import Derived.Test.YteahlnoonmfjhaaGreatRsB
set_option linter.unusedVariables false
set_option maxRecDepth 100000
namespace Go.Proofs.YteahlnoonmfjhaaGreat
open Go.RowKit

def putR (c : UInt8) (x : RsT) : Option (List UInt8) :=
  if c = 72 then hB x.h else if c = 65 then (if kindB x.at_.kind = true then some (attrB x.at_) else none) else if c = 120 then tB x.text 2048 else if c = 78 then some (intL x.n) else if c = 102 then some (intL x.free) else if c = 117 then some (beL x.used)
  else if c = 101 then some (beN (b2i x.end_) 4) else if c = 69 then (if 64 < x.ents.length then none else if longE x.ents = true then none else some (entsB x.ents)) else if c = 118 then some (beL x.verf) else some []
def clrR (c : UInt8) (x : RsT) : RsT :=
  if c = 72 then { x with h := (0, 0, 0) } else if c = 65 then { x with at_ := at0 } else if c = 120 then { x with text := [] } else if c = 78 then { x with n := 0 } else if c = 102 then { x with free := 0 } else if c = 117 then { x with used := 0 }
  else if c = 101 then { x with end_ := false } else if c = 69 then { x with ents := [] } else if c = 118 then { x with verf := 0 } else x
def clrV (c : UInt8) (v : Value) : Value := if c = 69 then .slice none 0 0 else v
structure RsT.Okw (x : RsT) : Prop where
  h : I64 x.h.1 ∧ I64 x.h.2.1 ∧ I64 x.h.2.2
  at_ : x.at_.Ok
  text : x.text.length ≤ 20000
  n : I64 x.n
  free : I64 x.free
  used : 0 ≤ x.used ∧ x.used ≤ 18446744073709551615
  verf : 0 ≤ x.verf ∧ x.verf ≤ 18446744073709551615
  each : ∀ y ∈ x.ents, y.Ok ∧ y.name.length ≤ 100000
  ents : x.ents.length ≤ 100000
/-- What putting a letter's field comes to. -/
def PutR (W0 : World) (B gw ga : Nat) (c : UInt8) (x : RsT) (rv : Value) (b : List UInt8) (e : Ending) (w' : World) : Prop :=
  e = .returned (.tuple #[]) ∧ match putR c x with
    | none => WrBad W0 w' gw ga
    | some y => Wr W0 w' B gw ga 60 (b ++ y) (rsC (clrR c x) (clrV c rv)).toArray
section
variable {W0 : World} {B gw ga : Nat} {b : List UInt8} {x : RsT} {rv : Value}
end
end Go.Proofs.YteahlnoonmfjhaaGreat
