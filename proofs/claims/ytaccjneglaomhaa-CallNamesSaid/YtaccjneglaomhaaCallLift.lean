/- How heads and answers are opened among a law's arguments. -/
import Derived.Test.YtaccjneglaomhaaLiftB
import Derived.Test.YtaccjneglaomhaaCallB
set_option linter.unusedVariables false
namespace Go.Proofs.Ytaccjneglaomhaa
open Go.RowKit Go.ChangeShapes Go.WideShapes Go.ChangeAt Go.Deep
structure HeadT where
  c : Int
  x : Int
  p : Int
  l : List UInt8
def HeadT.v (h : HeadT) : Value := headV h.c h.x h.p h.l
structure HeadT.Ok (h : HeadT) : Prop where
  c : (Lit.int .i64 h.c).wf = true
  x : (Lit.int .i64 h.x).wf = true
  p : (Lit.int .i64 h.p).wf = true
  l : h.l.length ≤ maxLen
structure AnsT where
  x : Int
  e : Int
  l : List UInt8
def AnsT.v (h : AnsT) : Value := ansV h.x h.e h.l
structure AnsT.Ok (h : AnsT) : Prop where
  x : (Lit.int .i64 h.x).wf = true
  e : (Lit.int .i64 h.e).wf = true
  l : h.l.length ≤ maxLen
section
variable {H : Type} {enc : TypeId × Value → H} {W : World} {base : Nat} {b0 : Nat} {spare : Nat → Bool} {held : Bool}
theorem open_head {v : Value} {d : DataW H} {p : List MemPlace} {r : Reach} (hv : Value.okWide Try.prog W r b0 32 v) (h : DataW.Trod enc Try.prog W base spare held 32 v d p) : ∃ x : HeadT, v = x.v ∧ x.Ok := by
  obtain ⟨x0, x1, x2, x3, y0, y1, y2, y3, m, rfl, _, _, hy0, hy1, hy2, hy3⟩ := Joins.open_agg4 Try.underlying32 (by kernel_rfl) (by kernel_rfl) hv h
  obtain ⟨a, e0, _, wa⟩ := DataW.trod_int Try.underlying3 hy0
  obtain ⟨b, e1, _, wb⟩ := DataW.trod_int Try.underlying3 hy1
  obtain ⟨c, e2, _, wc⟩ := DataW.trod_int Try.underlying3 hy2
  obtain ⟨s, e3, _, ws⟩ := DataW.trod_string Try.underlying9 hy3
  simp at e0 e1 e2 e3
  subst e0 e1 e2 e3
  exact ⟨⟨a, b, c, s.data.toList⟩, rfl, ⟨wa, wb, wc, ws⟩⟩
theorem open_ans {v : Value} {d : DataW H} {p : List MemPlace} {r : Reach} (hv : Value.okWide Try.prog W r b0 35 v) (h : DataW.Trod enc Try.prog W base spare held 35 v d p) : ∃ x : AnsT, v = x.v ∧ x.Ok := by
  obtain ⟨x0, x1, x2, y0, y1, y2, m, rfl, _, _, hy0, hy1, hy2⟩ := Joins.open_agg3 Try.underlying35 (by kernel_rfl) (by kernel_rfl) hv h
  obtain ⟨a, e0, _, wa⟩ := DataW.trod_int Try.underlying3 hy0
  obtain ⟨b, e1, _, wb⟩ := DataW.trod_int Try.underlying33 hy1
  obtain ⟨s, e2, _, ws⟩ := DataW.trod_string Try.underlying9 hy2
  simp at e0 e1 e2
  subst e0 e1 e2
  exact ⟨⟨a, b, s.data.toList⟩, rfl, ⟨wa, wb, ws⟩⟩
end
end Go.Proofs.Ytaccjneglaomhaa
