/- Arguments, by the document: which may be (plain). -/
import Derived.Test.YteahlnoonmfjhaaAfA
set_option linter.unusedVariables false
set_option maxRecDepth 100000
namespace Go.Proofs.Yteahlnoonmfjhaa

def z3 (x : Int × Int × Int) : Bool := decide (x = (0, 0, 0))
def zI (n : Int) : Bool := decide (n = 0)
def zS (s : List UInt8) : Bool := decide (s = [])
def mD1 (L : List UInt8) (a : AgT) : Bool := (hasL L 72 && !hmayB a.h.1 a.h.2.1 a.h.2.2) || (!hasL L 72 && !z3 a.h) || (hasL L 84 && !hmayB a.t.1 a.t.2.1 a.t.2.2) || (!hasL L 84 && !z3 a.t)
def mD2 (L : List UInt8) (a : AgT) : Bool := (!hasL L 110 && !zS a.name) || (!hasL L 111 && !zS a.other) || (!hasL L 116 && !zS a.text) || (!hasL L 97 && !zI a.at_) || (!hasL L 78 && !zI a.n) || (!hasL L 109 && !zI a.mode)
def mD3 (L : List UInt8) (a : AgT) : Bool := (!hasL L 115 && !zI a.size) || (!hasL L 83 && !zI a.stable) || (!hasL L 103 && !zI a.guard) || (!hasL L 118 && !zI a.verf)
def mD4 (a : AgT) : Bool := decide (a.name.length ≤ 255) && decide (a.other.length ≤ 255) && decide (a.text.length ≤ 2048)
def rMay (L : List UInt8) (a : AgT) : Bool := !mD1 L a && !mD2 L a && !mD3 L a && mD4 a
end Go.Proofs.Yteahlnoonmfjhaa
