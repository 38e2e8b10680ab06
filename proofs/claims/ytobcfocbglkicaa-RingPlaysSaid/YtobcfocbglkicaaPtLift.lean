/- How pointers are opened among a law's arguments. -/
import Derived.Test.YtobcfocbglkicaaLiftB
import Derived.Test.YtobcfocbglkicaaMc
set_option linter.unusedVariables false
set_option maxRecDepth 100000
namespace Go.Proofs.Ytobcfocbglkicaa
open Go.RowKit Go.ChangeShapes Go.WideShapes Go.ChangeAt Go.Deep
structure PtT.Ok (p : PtT) : Prop where
  a : (Lit.int .i64 p.a).wf = true
  b : (Lit.int .i64 p.b).wf = true
  s : 0 ≤ p.s ∧ p.s ≤ 18446744073709551615
section
variable {H : Type} {enc : TypeId × Value → H} {W : World} {base : Nat} {b0 : Nat} {spare : Nat → Bool} {held : Bool}
end
end Go.Proofs.Ytobcfocbglkicaa
