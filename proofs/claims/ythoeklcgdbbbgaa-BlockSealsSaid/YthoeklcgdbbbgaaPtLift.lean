/- How pointers are opened among a law's arguments. -/
import Derived.Test.YthoeklcgdbbbgaaLiftB
import Derived.Test.YthoeklcgdbbbgaaBlkG
set_option linter.unusedVariables false
namespace Go.Proofs.Ythoeklcgdbbbgaa
open Go.RowKit Go.ChangeShapes Go.WideShapes Go.ChangeAt Go.Deep
structure PtT.Ok (p : PtT) : Prop where
  a : (Lit.int .i64 p.a).wf = true
  b : (Lit.int .i64 p.b).wf = true
  s : 0 ≤ p.s ∧ p.s ≤ 18446744073709551615
section
variable {H : Type} {enc : TypeId × Value → H} {W : World} {base : Nat} {b0 : Nat} {spare : Nat → Bool} {held : Bool}
theorem open_ptr {v : Value} {d : DataW H} {p : List MemPlace} {r : Reach} (hv : Value.okWide Try.prog W r b0 26 v) (h : DataW.Trod enc Try.prog W base spare held 26 v d p) : ∃ x : PtT, v = x.v ∧ x.Ok := by
  obtain ⟨x0, x1, x2, y0, y1, y2, m, rfl, _, _, hy0, hy1, hy2⟩ := Joins.open_agg3 Try.underlying26 (by kernel_rfl) (by kernel_rfl) hv h
  obtain ⟨a, e0, _, wa⟩ := DataW.trod_int Try.underlying3 hy0
  obtain ⟨b, e1, _, wb⟩ := DataW.trod_int Try.underlying3 hy1
  obtain ⟨s, e2, _, ws⟩ := DataW.trod_int Try.underlying24 hy2
  simp at e0 e1 e2
  subst e0 e1 e2
  exact ⟨⟨a, b, s⟩, rfl, ⟨wa, wb, by simp [Lit.wf, IntKind.min, IntKind.max, IntKind.signed, IntKind.bits] at ws; omega⟩⟩
end
end Go.Proofs.Ythoeklcgdbbbgaa
