/- Arguments: a letter's field is read (printed by gen_agh.py). -/
import Derived.Test.YteahlnoonmfjhaaGreatAgG
import Derived.Test.YteahlnoonmfjhaaGreatMx
set_option linter.unusedVariables false
set_option maxRecDepth 100000
namespace Go.Proofs.YteahlnoonmfjhaaGreat
open Go.RowKit

/-- What reading a letter's field makes: of the reader, of whether it is bad, of the arguments. -/
def gtA (c : UInt8) (s : St) (bad : Bool) (a : AgT) : St × Bool × AgT :=
  if c = 72 then ((rdX s 24).2, bad || (dec (rdX s 24).1).isNone, { a with h := (dec (rdX s 24).1).getD (0, 0, 0) })
  else if c = 84 then ((rdX s 24).2, bad || (dec (rdX s 24).1).isNone, { a with t := (dec (rdX s 24).1).getD (0, 0, 0) })
  else if c = 110 then ((rdT s 255).2, bad, { a with name := (rdT s 255).1 }) else if c = 111 then ((rdT s 255).2, bad, { a with other := (rdT s 255).1 }) else if c = 120 then ((rdT s 2048).2, bad, { a with text := (rdT s 2048).1 })
  else if c = 112 then ((rdL s).2, bad, { a with at_ := wrap64 (rdL s).1 }) else if c = 78 then ((rdL s).2, bad, { a with n := wrap64 (rdL s).1 }) else if c = 109 then ((rdL s).2, bad, { a with mode := wrap64 (rdL s).1 })
  else if c = 115 then ((rdL s).2, bad, { a with size := wrap64 (rdL s).1 }) else if c = 98 then ((rdL s).2, bad, { a with stable := wrap64 (rdL s).1 }) else if c = 103 then ((rdL s).2, bad, { a with guard := wrap64 (rdL s).1 })
  else if c = 118 then ((rdL s).2, bad, { a with verf := (rdL s).1 }) else (s, bad, a)
theorem blk1 {w : World} {g : Nat} {T : TypeId} {a : Value} (h : w.heap[g]? = some (.cells #[a] T (0, 0))) : w.cell? ⟨g, 0, none⟩ = some a ∧ (∀ o, w.frozen? ⟨g, o, none⟩ = false) ∧ g < w.heap.size :=
  ⟨by simp [World.cell?, h], fun o => by simp [World.frozen?, h], heap_lt h⟩
section
variable {W0 : World} {gr gf ga b2 b3 : Nat} {st : St} {bad : Bool} {a : AgT}
/-- The post of a letter's reading. -/
def GetP (W0 : World) (gr gf ga b2 b3 : Nat) (st : St) (bad : Bool) (a : AgT) (c : UInt8) (e : Ending) (w' : World) : Prop :=
  e = .returned (.tuple #[]) ∧ RdS W0 w' gr gf ga b2 b3 28 122 (gtA c st bad a).1 (gtA c st bad a).2.1 (agC (gtA c st bad a).2.2).toArray
end
end Go.Proofs.YteahlnoonmfjhaaGreat
