/- Walks of package block: may, Encode. -/
import Derived.Test.YtobcfocbglkicaaBlkI
set_option linter.unusedVariables false
set_option maxRecDepth 100000
namespace Go.Proofs.Ytobcfocbglkicaa
open Go.RowKit

def eqP (a b s a' b' s' : Int) : Bool := decide (a = a' ∧ b = b' ∧ s = s')
/-- May a pointer be? -/
def mayP (a b s : Int) : Bool := if a = 0 then eqP a b s 0 0 0 else decide (0 < a ∧ a < 8192 ∧ 0 ≤ b ∧ b ≤ 2147483647)
theorem mayP_bd {a b s : Int} (h : mayP a b s = true) : 0 ≤ a ∧ a < 8192 ∧ 0 ≤ b ∧ b ≤ 2147483647 := by
  unfold mayP at h
  split at h
  · simp [eqP] at h; omega
  · simp at h; omega

def z16 : List UInt8 := [0, 0, 0, 0, 0, 0, 0, 0, 0, 0, 0, 0, 0, 0, 0, 0]
/-- A pointer's bytes. -/
def pBytes (a b s : Int) : List UInt8 := beN a 4 ++ beN b 4 ++ beN s 8
theorem p_puts (a b s : Int) : putC (putC (putC z16 0 4 a 4) 4 4 b 4) 8 8 s 8 = pBytes a b s := rfl
theorem pBytes_length (a b s : Int) : (pBytes a b s).length = 16 := by simp [pBytes, beN_length]
/-- What Encode answers. -/
def pEnc (a b s : Int) : List UInt8 × Int := if mayP a b s = true then (pBytes a b s, 0) else ([], 4)
def seV (r : List UInt8 × Int) : Value := .tuple #[.string (str r.1), .int .i64 r.2]

end Go.Proofs.Ytobcfocbglkicaa
