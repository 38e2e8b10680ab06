/- ArgsNames: the table of results; plain. -/
import Derived.Test.YteahlnoonmfjhaaAnB
import Derived.Test.YteahlnoonmfjhaaRsD
set_option linter.unusedVariables false
set_option maxRecDepth 100000
namespace Go.Proofs.Yteahlnoonmfjhaa
open Go.RowKit

def atD : AtT := { at0 with kind := 2, mode := -1, gen := 1099511627776 }
def en0 : EnT := ⟨[], 0, 0⟩
/-- Procedure, result, error. -/
def rnTab : List (Int × RsT × Int) := [(19, rs0, 62), (0, rs0, 0), (0, { rs0 with e := 63 }, 0), (0, { rs0 with e := 64 }, 4), (0, { rs0 with e := -1 }, 4), (1, { rs0 with at_ := atD }, 0),
  (1, { rs0 with e := 1, at_ := atD }, 4), (1, { rs0 with at_ := { at0 with kind := 4 } }, 4), (1, rs0, 4), (3, { rs0 with at_ := atD }, 4), (3, { rs0 with h := hx 3, at_ := atD }, 0),
  (5, { rs0 with text := zr 2048, end_ := true, at_ := atD }, 0), (5, { rs0 with text := zr 2049, at_ := atD }, 4), (14, { rs0 with ents := List.replicate 64 en0, verf := 5 }, 0), (14, { rs0 with ents := List.replicate 65 en0 }, 4),
  (14, { rs0 with ents := [⟨zr 256, 0, 0⟩] }, 4), (15, { rs0 with n := 1, free := 2, used := 3 }, 0), (16, { rs0 with n := 1 }, 4), (17, { rs0 with h := hx 1 }, 0), (18, { rs0 with h := hx 1 }, 4),
  (10, { rs0 with end_ := true }, 4), (12, { rs0 with free := 1 }, 4), (11, { rs0 with used := 1 }, 4), (4, { rs0 with text := [120], verf := 1 }, 4)]
theorem rn_e : ∀ r ∈ rnTab, (aT r.1 r.2.1).2 = r.2.2 := by decide +kernel
end Go.Proofs.Yteahlnoonmfjhaa
