/- Results, by the document: Hear (plain): what is read lies in its bounds. -/
import Derived.Test.YteahlnoonmfjhaaRsO
import Derived.Test.YteahlnoonmfjhaaRsM
import Derived.Test.YteahlnoonmfjhaaRsL
set_option linter.unusedVariables false
set_option maxRecDepth 100000
namespace Go.Proofs.Yteahlnoonmfjhaa
open Go.RowKit

/-- The program's letter of the document's. -/
def trT (c : UInt8) : UInt8 := if c = 116 then 120 else c
/-- What the document's reading of a letter makes. -/
def gtD (c : UInt8) (s : St) (ok : Bool) (x : RsT) : St × Bool × RsT :=
  if c = 72 then ((rdX s 24).2, (dec (rdX s 24).1).isSome, { x with h := (dec (rdX s 24).1).getD (0, 0, 0) })
  else if c = 65 then ((rdAtD s).1, ok, { x with at_ := (rdAtD s).2 })
  else ((gtR (trT c) s false x).1, ok, (gtR (trT c) s false x).2.2)
def rAllT : List UInt8 → St → Bool → RsT → St × Bool × RsT
  | [], s, ok, x => (s, ok, x)
  | c :: l, s, ok, x => rAllT l (gtD c s ok x).1 (gtD c s ok x).2.1 (gtD c s ok x).2.2
def finH (p : Int) (X : St × Bool × RsT) : RsT × Int := if (X.2.1 && doneB X.1 && rMayT p X.2.2) = true then (X.2.2, 0) else (rs0, 4)
def rH (p : Int) (s : List UInt8) : RsT × Int := if p < 0 ∨ 19 ≤ p then (rs0, 62) else finH p (rAllT (tellL p (rdW (some s)).1) (rdW (some s)).2 true { rs0 with e := (rdW (some s)).1 })
theorem gtD_okw {c : UInt8} (s : St) (ok : Bool) {x : RsT} (h : x.Okw) : (gtD c s ok x).2.2.Okw := by
  unfold gtD
  split
  · exact { h with h := dec_I64 _ }
  · split
    · have := rdW_bd s
      exact { h with at_ := atk_ok _ _ (by omega) }
    · exact gtR_okw s false h
theorem gtD_len (c : UInt8) (s : St) (ok : Bool) (x : RsT) : (gtD c s ok x).1.l.length ≤ s.l.length := by
  unfold gtD
  split
  · exact rdX_len s 24
  · split
    · exact Nat.le_trans (ats_len _ 7) (rdW_len s)
    · exact gtR_len _ _ _ _
end Go.Proofs.Yteahlnoonmfjhaa
