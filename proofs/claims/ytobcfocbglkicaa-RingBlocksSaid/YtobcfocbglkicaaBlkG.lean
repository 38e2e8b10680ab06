/- Walks of package block: To, Check. -/
import Derived.Test.YtobcfocbglkicaaBlkE
set_option linter.unusedVariables false
set_option maxRecDepth 100000
namespace Go.Proofs.Ytobcfocbglkicaa
open Go.RowKit

/-- A pointer as a value. -/
def ptV (a b s : Int) : Value := .agg #[.int .i64 a, .int .i64 b, .int .u64 s]
structure PtT where
  a : Int
  b : Int
  s : Int
def PtT.v (p : PtT) : Value := ptV p.a p.b p.s
/-- What To answers. -/
def toR (at_ : Int) (l : List UInt8) : PtT × Int :=
  if (openR l).e = 0 then if 1 ≤ at_ ∧ at_ < 8192 then (⟨at_, (openR l).b, fnv l⟩, 0) else (⟨0, 0, 0⟩, 1) else (⟨0, 0, 0⟩, (openR l).e)
def toV (r : PtT × Int) : Value := .tuple #[r.1.v, .int .i64 r.2]
structure CkT where
  k : UInt8
  s : List UInt8
  e : Int
/-- What Check answers. -/
def ckR (p : PtT) (l : List UInt8) : CkT :=
  if p.a = 0 ∨ fnv l ≠ p.s then ⟨0, [], 52⟩ else if (openR l).e ≠ 0 then ⟨0, [], (openR l).e⟩ else if (openR l).b ≠ p.b then ⟨0, [], 52⟩ else ⟨(openR l).k, (openR l).s, 0⟩
def CkT.v (r : CkT) : Value := .tuple #[.int .u8 r.k.toNat, .string (str r.s), .int .i64 r.e]

end Go.Proofs.Ytobcfocbglkicaa
