/- How roots are opened among a law's arguments. -/
import Derived.Test.YtobcfocbglkicaaBkLift
import Derived.Test.YtobcfocbglkicaaRgB
set_option linter.unusedVariables false
set_option maxRecDepth 100000
namespace Go.Proofs.Ytobcfocbglkicaa
open Go.RowKit Go.ChangeShapes Go.WideShapes Go.ChangeAt Go.Deep
def RoT.v (h : RoT) : Value := .agg #[.int .i64 h.t, .string (str h.l)]
structure RoT.Ok (h : RoT) : Prop where
  t : (Lit.int .i64 h.t).wf = true
  l : h.l.length ≤ maxLen
section
variable {H : Type} {enc : TypeId × Value → H} {W : World} {base : Nat} {b0 : Nat} {spare : Nat → Bool} {held : Bool}
theorem open_root {v : Value} {d : DataW H} {p : List MemPlace} {r : Reach} (hv : Value.okWide Try.prog W r b0 23 v) (h : DataW.Trod enc Try.prog W base spare held 23 v d p) : ∃ x : RoT, v = x.v ∧ x.Ok := by
  obtain ⟨x0, x1, y0, y1, m, rfl, _, _, hy0, hy1⟩ := Joins.open_agg2 Try.underlying23 (by kernel_rfl) (by kernel_rfl) hv h
  obtain ⟨a, e0, _, wa⟩ := DataW.trod_int Try.underlying3 hy0
  obtain ⟨s, e3, _, ws⟩ := DataW.trod_string Try.underlying9 hy1
  simp at e0 e3
  subst e0 e3
  exact ⟨⟨a, s.data.toList⟩, rfl, ⟨wa, ws⟩⟩
end
def eqRo (t : Int) (l : List UInt8) (t' : Int) (l' : List UInt8) : Bool := decide (t = t' ∧ l = l')
theorem eql_rroot (t t' : Int) (l l' : List UInt8) (w : World) : (binOp .eql 23 (.agg #[.int .i64 t, .string (str l)]) (.agg #[.int .i64 t', .string (str l')])).run Try.prog w = .ok (.bool (eqRo t l t' l')) w := by
  go_simp
  by_cases h1 : t = t' <;> by_cases h4 : l = l' <;> simp [eqRo, h1, h4, strL]
theorem eql_root (t t' : Int) (l l' : List UInt8) (w : World) : (binOp .eql 29 (.agg #[.int .i64 t, .string (str l)]) (.agg #[.int .i64 t', .string (str l')])).run Try.prog w = .ok (.bool (eqRo t l t' l')) w := by
  go_simp
  by_cases h1 : t = t' <;> by_cases h4 : l = l' <;> simp [eqRo, h1, h4, strL]
theorem neq_root (t t' : Int) (l l' : List UInt8) (w : World) : (binOp .neq 29 (.agg #[.int .i64 t, .string (str l)]) (.agg #[.int .i64 t', .string (str l')])).run Try.prog w = .ok (.bool (!(eqRo t l t' l'))) w := by
  go_simp
  by_cases h1 : t = t' <;> by_cases h4 : l = l' <;> simp [eqRo, h1, h4, strL]
end Go.Proofs.Ytobcfocbglkicaa
