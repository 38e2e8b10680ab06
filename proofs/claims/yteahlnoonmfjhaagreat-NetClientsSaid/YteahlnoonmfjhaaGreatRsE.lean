/- Results: isZero (printed by gen_rse.py). -/
import Derived.Test.YteahlnoonmfjhaaGreatRsD
set_option linter.unusedVariables false
set_option maxRecDepth 100000
namespace Go.Proofs.YteahlnoonmfjhaaGreat
open Go.RowKit

end Go.Proofs.YteahlnoonmfjhaaGreat
