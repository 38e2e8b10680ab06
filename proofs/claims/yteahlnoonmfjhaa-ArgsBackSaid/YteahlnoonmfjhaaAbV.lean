/- A new variable of a result, with any slice. -/
import Derived.Test.YteahlnoonmfjhaaRsK
set_option linter.unusedVariables false
set_option maxRecDepth 100000
namespace Go.Proofs.Yteahlnoonmfjhaa
open Go.RowKit

theorem new_rsV (w : World) (x : RsT) (A : Option Addr) (n c : Nat) : (Instr.storeAt 41 (.pointer (some ⟨w.heap.size, 0, none⟩)) (.agg (rsC x (.slice A n c)).toArray)).run Try.prog (w.alloc (.cells #[.int .i64 0, .int .i64 0, .int .i64 0, .int .i64 0, .int .u8 0, .int .i64 0, .int .i64 0, .int .i64 0, .int .i64 0, .int .i64 0, .int .i64 0, .int .i64 0, .string ⟨#[]⟩, .int .i64 0, .int .i64 0, .int .u64 0, .bool false, .slice none 0 0, .int .u64 0] 41)) = .ok () (w.alloc (.cells (rsC x (.slice A n c)).toArray 41)) := by
  have h : (w.alloc (.cells (rsC rs0 (.slice none 0 0)).toArray 41)).heap[w.heap.size]? = some (.cells (rsC rs0 (.slice none 0 0)).toArray 41 (0, 0)) := heap_alloc_last w _
  have := storeRs (y := x) (A := A) (n := n) (c := c) h
  rw [World.setRow_alloc_new] at this
  exact this
theorem rs_cell0 {w : World} {g : Nat} {x : RsT} {v : Value} {T : TypeId} {fr : Nat × Nat} (h : w.heap[g]? = some (.cells (rsC x v).toArray T fr)) : w.cell? ⟨g, 0, none⟩ = some (.int .i64 x.e) ∧ g < w.heap.size :=
  ⟨by rw [cell_of_row _ _ _ _ _ _ h]; rfl, heap_lt h⟩
theorem wpList_ldB {P : Program} {ops : Array Oper} {rest : List Oper} {o : Oper} {a : Act} {w : World} {Q : Exit → Act → World → Prop} (ty : TypeId) (x : Operand) (ho : o.op = .load ty x) (hg : Region.wanted o (yielded ops a.tmps) = true) {v : Value} (hr : (Instr.loadAt ty (a.eval x)).run P w = .ok v w)
    (h : wpList P ops Q rest (a.put o.dst v) w) : wpList P ops Q (o :: rest) a w := by
  unfold wpList
  rw [if_pos hg]
  refine .inl ?_
  unfold Oper.wp execOp
  simp only [ho, Sem.run_bind, hr, Result.andThen_ok, Sem.run_pure]
  exact h
end Go.Proofs.Yteahlnoonmfjhaa
