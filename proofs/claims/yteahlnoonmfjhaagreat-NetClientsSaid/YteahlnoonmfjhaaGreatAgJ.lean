/- Arguments: Read. -/
import Derived.Test.YteahlnoonmfjhaaGreatAgI
import Derived.Laws.ResultCell
set_option linter.unusedVariables false
set_option maxRecDepth 100000
namespace Go.Proofs.YteahlnoonmfjhaaGreat
open Go.RowKit

def gtAll : List UInt8 → St → AgT → Option (St × AgT)
  | [], s, a => some (s, a)
  | c :: l, s, a => if (gtA c s false a).2.1 = false ∧ (gtA c s false a).1.isSome = true then gtAll l (gtA c s false a).1 (gtA c s false a).2.2 else none
def endA (x : Option (St × AgT)) : AgT × Int := match x with
  | none => (ag0, 4)
  | some y => if doneB y.1 = true then (y.2, 0) else (ag0, 4)
/-- The arguments of words, and the error. -/
def aR (p : Int) (s : List UInt8) : AgT × Int := match askedL p with
  | none => (ag0, 62)
  | some l => endA (gtAll l (some s) ag0)
theorem results_ct {P : Program} {fn : Func} {p u : Tmp} {ty : TypeId} (h : fn.results = #[.cell p ty, .tmp u]) (tmps : Array Value) (w : World) (g : Nat) (t : TypeId) (cs : Array Value) (fr : Nat × Nat) (d : TypeDesc)
    (hp : tmps.getD p undef = .pointer (some ⟨g, 0, none⟩)) (hg : w.heap[g]? = some (.cells cs t fr)) (hu : P.underlying ty = some d) (hd : (match d with | .struct _ | .array _ _ => true | _ => false) = true) (hi : (P.info? ty).map (·.size) = some cs.size) :
    (results fn tmps).run P w = .ok (.tuple #[.agg cs, tmps.getD u undef]) w := by
  rw [results_cell_tmp h, hp]
  simp [asAddr, run_loadVar_row w g t ty cs fr d hg hu hd hi, Result.andThen]
theorem conv_str (w : World) (l : List UInt8) : ∃ v' w', (convert 9 103 (.string (str l))).run Tryz.prog w = .ok v' w' ∧ RS w' v' l ∧ Ext w w' := by
  refine ⟨_, _, bytes_of w l Tryz.underlying9 Tryz.underlying103 Tryz.underlying5, ?_, (Below.refl _ w).drew.alloc (Nat.le_refl _) _⟩
  exact rs_block (m := l ++ List.replicate (grownCap w l.length 0 5 - l.length) 0) (off := 0) (heap_alloc_last w.drew _) (by simp) (grownCap_ge w l.length 0 5)
theorem storeAg {w : World} {g : Nat} {a b : AgT} (h : w.heap[g]? = some (.cells (agC b).toArray 28 (0, 0))) : (Instr.storeAt 28 (.pointer (some ⟨g, 0, none⟩)) (.agg (agC a).toArray)).run Tryz.prog w = .ok () (w.setRow g (agC a).toArray) :=
  storeAt_row (P := Tryz.prog) h (by kernel_rfl) rfl (by simp [agC, Value.oneCell'])
theorem storeAgZ {w : World} {g : Nat} {b : AgT} (h : w.heap[g]? = some (.cells (agC b).toArray 28 (0, 0))) : (Instr.storeAt 28 (.pointer (some ⟨g, 0, none⟩)) (.agg #[.int .i64 0, .int .i64 0, .int .i64 0, .int .i64 0, .int .i64 0, .int .i64 0, .string ⟨#[]⟩, .string ⟨#[]⟩, .string ⟨#[]⟩, .int .i64 0, .int .i64 0, .int .i64 0, .int .i64 0, .int .i64 0, .int .i64 0, .int .u64 0])).run Tryz.prog w = .ok () (w.setRow g (agC ag0).toArray) := storeAg (a := ag0) h
theorem gtA_len (c : UInt8) (s : St) (b : Bool) (a : AgT) : (gtA c s b a).1.l.length ≤ s.l.length := by
  have h1 := rdX_len s 24
  have h2 := rdT_len s 255
  have h3 := rdT_len s 2048
  have h4 := rdL_len s
  unfold gtA
  by_cases e1 : c = 72
  · rw [if_pos e1]; exact h1
  rw [if_neg e1]
  by_cases e2 : c = 84
  · rw [if_pos e2]; exact h1
  rw [if_neg e2]
  by_cases e3 : c = 110
  · rw [if_pos e3]; exact h2
  rw [if_neg e3]
  by_cases e4 : c = 111
  · rw [if_pos e4]; exact h2
  rw [if_neg e4]
  by_cases e5 : c = 120
  · rw [if_pos e5]; exact h3
  rw [if_neg e5]
  by_cases e6 : c = 112
  · rw [if_pos e6]; exact h4
  rw [if_neg e6]
  by_cases e7 : c = 78
  · rw [if_pos e7]; exact h4
  rw [if_neg e7]
  by_cases e8 : c = 109
  · rw [if_pos e8]; exact h4
  rw [if_neg e8]
  by_cases e9 : c = 115
  · rw [if_pos e9]; exact h4
  rw [if_neg e9]
  by_cases e10 : c = 98
  · rw [if_pos e10]; exact h4
  rw [if_neg e10]
  by_cases e11 : c = 103
  · rw [if_pos e11]; exact h4
  rw [if_neg e11]
  by_cases e12 : c = 118
  · rw [if_pos e12]; exact h4
  rw [if_neg e12]
  exact Nat.le_refl _
end Go.Proofs.YteahlnoonmfjhaaGreat
