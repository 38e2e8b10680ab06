/- Generic: how the arguments of a law are opened. No statement of its own. -/
import Derived.Test.YteahlnoonmfjhaaBase
import Derived.ProofKit
import Derived.OpenShut
import Derived.ShutString
import Derived.ChangeOld
import Derived.Lib.SmallJoins
set_option linter.unusedVariables false
namespace Go.Proofs.Yteahlnoonmfjhaa
open Go.RowKit Go.ChangeShapes Go.WideShapes Go.ChangeAt Go.Deep
open Go.ChangeMaps (open_string shut_string)
section
variable {H : Type} {enc : TypeId × Value → H} {P : Program} {W : World} {base : Nat} {b0 : Nat} {spare : Nat → Bool} {held : Bool}

theorem open_str {t : TypeId} {v : Value} {d : DataW H} {p : List MemPlace} {r : Reach} (ht : P.underlying t = some .string) (hv : Value.okWide P W r b0 t v) (h : DataW.Trod enc P W base spare held t v d p) :
    ∃ l : List UInt8, v = .string (str l) ∧ l.length ≤ maxLen := by
  obtain ⟨s, rfl, _, _, hs⟩ := open_string ht hv h
  exact ⟨s.data.toList, rfl, hs⟩

theorem open_handle {t ti : TypeId} {v : Value} {d : DataW H} {p : List MemPlace} {r : Reach} {f0 f1 f2 : Field} (ht : P.underlying t = some (.struct #[f0, f1, f2])) (hi : P.underlying ti = some (.int .i64))
    (hone : (oneCellFields P #[f0, f1, f2] && f0.type == ti && f1.type == ti && f2.type == ti) = true) (hC : P.cellsOf t = 3)
    (hv : Value.okWide P W r b0 t v) (h : DataW.Trod enc P W base spare held t v d p) :
    ∃ a b c : Int, v = .agg #[.int .i64 a, .int .i64 b, .int .i64 c] ∧ (Lit.int .i64 a).wf = true ∧ (Lit.int .i64 b).wf = true ∧ (Lit.int .i64 c).wf = true := by
  simp only [Bool.and_eq_true, beq_iff_eq] at hone
  obtain ⟨⟨⟨hone, e0⟩, e1⟩, e2⟩ := hone
  obtain ⟨x0, x1, x2, y0, y1, y2, m, rfl, _, _, hy0, hy1, hy2⟩ := Joins.open_agg3 ht hone hC hv h
  rw [e0] at hy0
  rw [e1] at hy1
  rw [e2] at hy2
  obtain ⟨a, e0, _, wa⟩ := DataW.trod_int hi hy0
  obtain ⟨b, e1, _, wb⟩ := DataW.trod_int hi hy1
  obtain ⟨c, e2, _, wc⟩ := DataW.trod_int hi hy2
  simp at e0 e1 e2
  subst e0 e1 e2
  exact ⟨a, b, c, rfl, wa, wb, wc⟩
end
end Go.Proofs.Yteahlnoonmfjhaa
