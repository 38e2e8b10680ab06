/- Texts of mine in one: RsV, AbV. No statement of its own. -/
import Derived.Test.YteahlnoonmfjhaaAgK
import Derived.Test.YteahlnoonmfjhaaOpen
import Derived.Test.YteahlnoonmfjhaaRsK
set_option linter.unusedVariables false
set_option maxRecDepth 100000
namespace Go.Proofs.Yteahlnoonmfjhaa
section
set_option linter.unusedVariables false
set_option maxRecDepth 100000
open Go.RowKit Go.ChangeShapes Go.WideShapes Go.ChangeAt Go.Deep

section
variable {H : Type} {enc : TypeId × Value → H} {W : World} {base : Nat} {b0 : Nat} {spare : Nat → Bool} {held : Bool}
theorem open_at8 {n : Nat} {c0 c1 c2 c3 c4 c5 c6 c7 : Value} {y : DataW H × List MemPlace} (h : DataW.trod enc Try.prog W base spare held n 38 [c0, c1, c2, c3, c4, c5, c6, c7] = some y) : ∃ a : AtT, [c0, c1, c2, c3, c4, c5, c6, c7] = atC a ∧ a.Ok := by
  obtain ⟨_, hf⟩ := fields_flat Try.underlying38 h
  obtain ⟨_, _, t0⟩ := hf 0 _ 0 5 1 rfl rfl rfl (by kernel_rfl)
  obtain ⟨_, _, t1⟩ := hf 1 _ 1 3 1 rfl rfl rfl (by kernel_rfl)
  obtain ⟨_, _, t2⟩ := hf 2 _ 2 3 1 rfl rfl rfl (by kernel_rfl)
  obtain ⟨_, _, t3⟩ := hf 3 _ 3 3 1 rfl rfl rfl (by kernel_rfl)
  obtain ⟨_, _, t4⟩ := hf 4 _ 4 3 1 rfl rfl rfl (by kernel_rfl)
  obtain ⟨_, _, t5⟩ := hf 5 _ 5 3 1 rfl rfl rfl (by kernel_rfl)
  obtain ⟨_, _, t6⟩ := hf 6 _ 6 3 1 rfl rfl rfl (by kernel_rfl)
  obtain ⟨_, _, t7⟩ := hf 7 _ 7 3 1 rfl rfl rfl (by kernel_rfl)
  obtain ⟨m0, e0, _, w0⟩ := DataW.trod_int Try.underlying5 t0
  obtain ⟨m1, e1, _, w1⟩ := DataW.trod_int Try.underlying3 t1
  obtain ⟨m2, e2, _, w2⟩ := DataW.trod_int Try.underlying3 t2
  obtain ⟨m3, e3, _, w3⟩ := DataW.trod_int Try.underlying3 t3
  obtain ⟨m4, e4, _, w4⟩ := DataW.trod_int Try.underlying3 t4
  obtain ⟨m5, e5, _, w5⟩ := DataW.trod_int Try.underlying3 t5
  obtain ⟨m6, e6, _, w6⟩ := DataW.trod_int Try.underlying3 t6
  obtain ⟨m7, e7, _, w7⟩ := DataW.trod_int Try.underlying3 t7
  simp at e0 e1 e2 e3 e4 e5 e6 e7
  subst e0 e1 e2 e3 e4 e5 e6 e7
  exact ⟨⟨m0, m1, m2, m3, m4, m5, m6, m7⟩, rfl, u8_wf w0, i64_wf w1, i64_wf w2, i64_wf w3, i64_wf w4, i64_wf w5, i64_wf w6, i64_wf w7⟩
theorem open_ents {n : Nat} {v : Value} {y : DataW H × List MemPlace} (h : DataW.trod enc Try.prog W base spare held n 39 [v] = some y) : ∃ l : List EnT, RR W 3 v l.length (l.flatMap enC) ∧ (∀ x ∈ l, x.Ok) ∧ l.length ≤ maxLen :=
  open_rows (enc := enC) (R := fun x => x.Ok) Try.underlying39 Try.underlying66 (by kernel_rfl) (by kernel_rfl) (by decide) enC_len (fun cell hc => by
    obtain ⟨y0, n0, t0⟩ := hc 0 _ rfl
    obtain ⟨y1, n1, t1⟩ := hc 1 _ rfl
    obtain ⟨y2, n2, t2⟩ := hc 2 _ rfl
    obtain ⟨s0, e0, _, w0⟩ := DataW.trod_string Try.underlying9 t0
    obtain ⟨b, e1, _, w1⟩ := DataW.trod_int Try.underlying3 t1
    obtain ⟨c, e2, _, w2⟩ := DataW.trod_int Try.underlying3 t2
    simp only [List.cons.injEq, and_true] at e0 e1 e2
    refine ⟨⟨s0.data.toList, b, c⟩, fun j hj => ?_, ⟨w0, i64_wf w1, i64_wf w2⟩⟩
    have hj2 : j < 3 := hj
    rcases j with _ | _ | _ | j
    · exact congrArg some e0.symm
    · exact congrArg some e1.symm
    · exact congrArg some e2.symm
    · omega) h
theorem open_Wresult {v : Value} {d : DataW H} {p : List MemPlace} {r : Reach} (hv : Value.okWide Try.prog W r b0 41 v) (h : DataW.Trod enc Try.prog W base spare held 41 v d p) : ∃ x : RssT, v = x.v ∧ x.Ok W := by
  obtain ⟨cs, rfl, hl, hf⟩ := open_flat Try.underlying41 hv h
  obtain ⟨c0, c1, c2, c3, c4, c5, c6, c7, c8, c9, c10, c11, c12, c13, c14, c15, c16, c17, c18, rfl⟩ := list19 (hl.trans (by kernel_rfl))
  obtain ⟨_, _, t0⟩ := hf 0 _ 0 26 1 rfl rfl rfl (by kernel_rfl)
  obtain ⟨_, _, t1⟩ := hf 1 _ 1 32 3 rfl rfl rfl (by kernel_rfl)
  obtain ⟨_, _, t2⟩ := hf 2 _ 4 38 8 rfl rfl rfl (by kernel_rfl)
  obtain ⟨_, _, t3⟩ := hf 3 _ 12 9 1 rfl rfl rfl (by kernel_rfl)
  obtain ⟨_, _, t4⟩ := hf 4 _ 13 3 1 rfl rfl rfl (by kernel_rfl)
  obtain ⟨_, _, t5⟩ := hf 5 _ 14 3 1 rfl rfl rfl (by kernel_rfl)
  obtain ⟨_, _, t6⟩ := hf 6 _ 15 33 1 rfl rfl rfl (by kernel_rfl)
  obtain ⟨_, _, t7⟩ := hf 7 _ 16 4 1 rfl rfl rfl (by kernel_rfl)
  obtain ⟨_, _, t8⟩ := hf 8 _ 17 39 1 rfl rfl rfl (by kernel_rfl)
  obtain ⟨_, _, t9⟩ := hf 9 _ 18 33 1 rfl rfl rfl (by kernel_rfl)
  obtain ⟨m0, e0, _, w0⟩ := DataW.trod_int Try.underlying26 t0
  obtain ⟨a0, a1, a2, rfl, rfl, rfl, b0, b1, b2⟩ := open_h3 t1
  obtain ⟨at_, ea, oa⟩ := open_at8 t2
  obtain ⟨s3, e3, _, w3⟩ := DataW.trod_string Try.underlying9 t3
  obtain ⟨m4, e4, _, w4⟩ := DataW.trod_int Try.underlying3 t4
  obtain ⟨m5, e5, _, w5⟩ := DataW.trod_int Try.underlying3 t5
  obtain ⟨m6, e6, _, w6⟩ := DataW.trod_int Try.underlying33 t6
  obtain ⟨q, e7, _⟩ := DataW.trod_bool Try.underlying4 t7
  obtain ⟨l, r8, o8, l8⟩ := open_ents (v := c17) t8
  obtain ⟨m9, e9, _, w9⟩ := DataW.trod_int Try.underlying33 t9
  unfold atC at ea
  simp at e0 e3 e4 e5 e6 e7 e9 ea
  obtain ⟨ea0, ea1, ea2, ea3, ea4, ea5, ea6, ea7⟩ := ea
  subst e0 e3 e4 e5 e6 e7 e9 ea0 ea1 ea2 ea3 ea4 ea5 ea6 ea7
  exact ⟨⟨⟨m0, (a0, a1, a2), at_, s3.data.toList, m4, m5, m6, q, l, m9⟩, c17⟩, rfl, ⟨i64_wf w0, ⟨b0, b1, b2⟩, oa, w3, i64_wf w4, i64_wf w5, u64_wf w6, u64_wf w9, l8, o8⟩, r8⟩
end
end

section
set_option linter.unusedVariables false
set_option maxRecDepth 100000
open Go.RowKit

theorem new_rsV (w : World) (x : RsT) (A : Option Addr) (n c : Nat) : (Instr.storeAt 41 (.pointer (some ⟨w.heap.size, 0, none⟩)) (.agg (rsC x (.slice A n c)).toArray)).run Try.prog (w.alloc (.cells #[.int .i64 0, .int .i64 0, .int .i64 0, .int .i64 0, .int .u8 0, .int .i64 0, .int .i64 0, .int .i64 0, .int .i64 0, .int .i64 0, .int .i64 0, .int .i64 0, .string ⟨#[]⟩, .int .i64 0, .int .i64 0, .int .u64 0, .bool false, .slice none 0 0, .int .u64 0] 41)) = .ok () (w.alloc (.cells (rsC x (.slice A n c)).toArray 41)) := by
  have h : (w.alloc (.cells (rsC rs0 (.slice none 0 0)).toArray 41)).heap[w.heap.size]? = some (.cells (rsC rs0 (.slice none 0 0)).toArray 41 (0, 0)) := heap_alloc_last w _
  have := storeRs (y := x) (A := A) (n := n) (c := c) h
  rw [World.setRow_alloc_new] at this
  exact this
theorem rs_cell0 {w : World} {g : Nat} {x : RsT} {v : Value} {T : TypeId} {fr : Nat × Nat} (h : w.heap[g]? = some (.cells (rsC x v).toArray T fr)) : w.cell? ⟨g, 0, none⟩ = some (.int .i64 x.e) ∧ g < w.heap.size :=
  ⟨by rw [cell_of_row _ _ _ _ _ _ h]; rfl, heap_lt h⟩
theorem rs_cell17 {w : World} {g : Nat} {x : RsT} {v : Value} {T : TypeId} {fr : Nat × Nat} (h : w.heap[g]? = some (.cells (rsC x v).toArray T fr)) : w.cell? ⟨g, 17, none⟩ = some v ∧ g < w.heap.size :=
  ⟨by rw [cell_of_row _ _ _ _ _ _ h]; rfl, heap_lt h⟩
theorem wpList_ldB {P : Program} {ops : Array Oper} {rest : List Oper} {o : Oper} {a : Act} {w : World} {Q : Exit → Act → World → Prop} (ty : TypeId) (x : Operand) (ho : o.op = .load ty x) (hg : Region.wanted o (yielded ops a.tmps) = true) {v : Value} (hr : (Instr.loadAt ty (a.eval x)).run P w = .ok v w)
    (h : wpList P ops Q rest (a.put o.dst v) w) : wpList P ops Q (o :: rest) a w := by
  unfold wpList
  rw [if_pos hg]
  refine .inl ?_
  unfold Oper.wp execOp
  simp only [ho, Sem.run_bind, hr, Result.andThen_ok, Sem.run_pure]
  exact h
end
end Go.Proofs.Yteahlnoonmfjhaa
