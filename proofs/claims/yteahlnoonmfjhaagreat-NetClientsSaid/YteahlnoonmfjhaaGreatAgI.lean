/- Arguments: a letter's field is read: handles; all letters. -/
import Derived.Test.YteahlnoonmfjhaaGreatAgH
set_option linter.unusedVariables false
set_option maxRecDepth 100000
namespace Go.Proofs.YteahlnoonmfjhaaGreat
open Go.RowKit

section
variable {W0 : World} {gr gf ga b2 b3 : Nat} {st : St} {bad : Bool} {a : AgT}
end
end Go.Proofs.YteahlnoonmfjhaaGreat
