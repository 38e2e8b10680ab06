/- ArgsNames: the table of arguments; plain. -/
import Derived.Test.YteahlnoonmfjhaaAbB
set_option linter.unusedVariables false
set_option maxRecDepth 100000
namespace Go.Proofs.Yteahlnoonmfjhaa
open Go.RowKit

def zr (n : Nat) : List UInt8 := List.replicate n 0
def hx (n : Int) : Int × Int × Int := (0, n, 0)
/-- Procedure, arguments, error. -/
def anTab : List (Int × AgT × Int) := [(-1, ag0, 62), (19, ag0, 62), (0, ag0, 0), (0, { ag0 with n := 1 }, 4), (1, ag0, 4),
  (3, { ag0 with h := hx 1, name := zr 255 }, 0), (3, { ag0 with h := hx 1, name := zr 256 }, 4), (12, { ag0 with h := hx 1, t := hx 2, name := [97], other := zr 256 }, 4),
  (12, { ag0 with h := hx 1, name := [97], other := [98] }, 4), (6, { ag0 with h := hx 1, text := zr 2048, at_ := -1, stable := 9 }, 0), (6, { ag0 with h := hx 1, text := zr 2049 }, 4),
  (2, { ag0 with h := hx 1, mode := -1, size := -1, guard := -1 }, 0), (2, { ag0 with h := hx 1, verf := 1 }, 4), (14, { ag0 with h := hx 1, verf := 18446744073709551615 }, 0),
  (7, { ag0 with h := hx 1, name := [97], text := [120] }, 4), (15, { ag0 with h := hx 1, t := hx 1 }, 4), (16, { ag0 with h := hx 1, stable := 1 }, 4), (10, { ag0 with h := hx 1, mode := 1 }, 4),
  (11, { ag0 with h := hx 1, size := 1 }, 4), (17, { ag0 with h := hx 1, guard := 1 }, 4), (18, { ag0 with h := hx 1, other := [120] }, 4)]
theorem an_e : ∀ r ∈ anTab, (aW r.1 r.2.1).2 = r.2.2 := by decide +kernel
end Go.Proofs.Yteahlnoonmfjhaa
