/- ArgsNames: rows of the tables in memory; what holds of the rows. -/
import Derived.Test.YteahlnoonmfjhaaAnA
import Derived.Test.YteahlnoonmfjhaaAnC
import Derived.Test.YteahlnoonmfjhaaRsG
import Derived.Test.YteahlnoonmfjhaaRsN
import Derived.Great.CaseRows
set_option linter.unusedVariables false
set_option maxRecDepth 100000
namespace Go.Proofs.Yteahlnoonmfjhaa
open Go.RowKit

/-! A slice literal of structs of sz cells each. -/
theorem run_bsN {P : Program} {t e : TypeId} {sz : Nat} (w : World) (vs : List (List Value)) (hu : P.underlying t = some (.slice e)) (hi : (P.info? e).map (·.size) = some sz) (hz : ((P.info? e).bind (·.zero)).isSome = true) (h0 : 0 < sz) (h1 : 0 < vs.length) (hs : vs.length * sz ≤ 2 ^ 24) (hl : ∀ v ∈ vs, v.length = sz)
    {parts : Array (Nat × Value)} (hp : parts.toList = ((vs.map fun c => Value.agg c.toArray).zipIdx 0).map fun x => (x.2, x.1)) :
    (Instr.buildSlice t vs.length parts).run P w = .ok (.slice (some ⟨w.heap.size, 0, none⟩) vs.length vs.length) (w.alloc (.cells (vs.flatMap id).toArray e)) := by
  cases hie : P.info? e with
  | none => rw [hie] at hi; simp at hi
  | some ie =>
    rw [hie] at hi hz
    simp only [Option.map_some, Option.some.injEq, Option.bind_some] at hi hz
    obtain ⟨z, hzz⟩ := Option.isSome_iff_exists.1 hz
    have hpos : 0 < vs.length * sz := Nat.mul_pos h1 h0
    refine Go.run_buildSlice w t e vs.length _ (vs.flatMap id).toArray ie z hu hie hzz (by rw [hi]; omega) (by rw [hi]; omega) ?_
    have hc : ∀ v ∈ vs.map fun c => Value.agg c.toArray, v.cells.size = sz := by
      intro v hv
      obtain ⟨c, hc, rfl⟩ := List.mem_map.1 hv
      simpa [Value.cells] using hl c hc
    rw [hp, hi, Go.Great.fill_whole h0 _ _ hc (by simp)]
    simp [Value.cells, List.flatMap_map]
theorem wpList_bsN {P : Program} {ops : Array Oper} {rest : List Oper} {o : Oper} {a : Act} {w : World} {Q : Exit → Act → World → Prop} (t e : TypeId) (sz n : Nat) (vs : List (List Value)) (parts : Array (Nat × Operand)) (hg : o.guard = none) (ho : o.op = .buildSlice t n parts) (hn : vs.length = n) (hu : P.underlying t = some (.slice e)) (hi : (P.info? e).map (·.size) = some sz) (hz : ((P.info? e).bind (·.zero)).isSome = true) (h0 : 0 < sz) (h1 : 0 < vs.length) (hs : vs.length * sz ≤ 2 ^ 24) (hl : ∀ v ∈ vs, v.length = sz)
    (hp : (parts.map fun z => (z.1, a.eval z.2)).toList = ((vs.map fun c => Value.agg c.toArray).zipIdx 0).map fun x => (x.2, x.1))
    (h : wpList P ops Q rest (a.put o.dst (.slice (some ⟨w.heap.size, 0, none⟩) n n)) (w.alloc (.cells (vs.flatMap id).toArray e))) : wpList P ops Q (o :: rest) a w := by
  subst hn
  refine wpList_plain hg fun K hK => ?_
  unfold Oper.wp execOp
  simp only [ho, Sem.run_bind, run_bsN w vs hu hi hz h0 h1 hs hl hp, Result.andThen_ok, Sem.run_pure]
  exact hK _ _ h

/-! The table of arguments. -/
def anC (r : Int × AgT × Int) : List Value := .int .i64 r.1 :: (agC r.2.1 ++ [.int .i64 r.2.2])
theorem anC_length (r : Int × AgT × Int) : (anC r).length = 18 := rfl
def okB (a : AgT) : Bool := decide ((-9223372036854775808 ≤ a.h.1 ∧ a.h.1 ≤ 9223372036854775807) ∧ (-9223372036854775808 ≤ a.h.2.1 ∧ a.h.2.1 ≤ 9223372036854775807) ∧ (-9223372036854775808 ≤ a.h.2.2 ∧ a.h.2.2 ≤ 9223372036854775807)) && decide ((-9223372036854775808 ≤ a.t.1 ∧ a.t.1 ≤ 9223372036854775807) ∧ (-9223372036854775808 ≤ a.t.2.1 ∧ a.t.2.1 ≤ 9223372036854775807) ∧ (-9223372036854775808 ≤ a.t.2.2 ∧ a.t.2.2 ≤ 9223372036854775807)) &&
  (decide (a.name.length ≤ 20000) && decide (a.other.length ≤ 20000) && decide (a.text.length ≤ 20000)) && decide ((-9223372036854775808 ≤ a.at_ ∧ a.at_ ≤ 9223372036854775807) ∧ (-9223372036854775808 ≤ a.n ∧ a.n ≤ 9223372036854775807) ∧ (-9223372036854775808 ≤ a.mode ∧ a.mode ≤ 9223372036854775807)) &&
  decide ((-9223372036854775808 ≤ a.size ∧ a.size ≤ 9223372036854775807) ∧ (-9223372036854775808 ≤ a.stable ∧ a.stable ≤ 9223372036854775807) ∧ (-9223372036854775808 ≤ a.guard ∧ a.guard ≤ 9223372036854775807)) && decide (0 ≤ a.verf ∧ a.verf ≤ 18446744073709551615)
theorem okB_ok {a : AgT} (h : okB a = true) : a.Ok := by
  unfold okB at h
  simp only [Bool.and_eq_true, decide_eq_true_eq] at h
  obtain ⟨⟨⟨⟨⟨h1, h2⟩, ⟨h3, h4⟩, h5⟩, h6, h7, h8⟩, h9, h10, h11⟩, h12⟩ := h
  exact ⟨h1, h2, h3, h4, h5, h6, h7, h8, h9, h10, h11, h12⟩
theorem an_okB : ∀ r ∈ anTab, (okB r.2.1 && decide (-9223372036854775808 ≤ r.1 ∧ r.1 ≤ 9223372036854775807) && decide ((aW r.1 r.2.1).1.length ≤ 20000)) = true := by decide +kernel
theorem an_ok {r : Int × AgT × Int} (hr : r ∈ anTab) : r.2.1.Ok ∧ I64 r.1 ∧ (aW r.1 r.2.1).1.length ≤ 20000 := by
  have h := an_okB r hr
  simp only [Bool.and_eq_true, decide_eq_true_eq] at h
  exact ⟨okB_ok h.1.1, h.1.2, h.2⟩
abbrev TA : TypeId := 68
theorem info_an : (Try.prog.info? TA).map (·.size) = some 18 := by kernel_rfl
theorem und_an : ∃ fs, Try.prog.underlying TA = some (.struct fs) := ⟨_, Try.underlying68⟩
theorem an_ld {w : World} {g j : Nat} {T : TypeId} {fr : Nat × Nat} {L : List (Int × AgT × Int)} {r : Int × AgT × Int} (hg : w.heap[g]? = some (.cells (L.flatMap anC).toArray T fr)) (hj : L[j]? = some r) : (Instr.loadAt TA (.pointer (some ⟨g, j * 18, none⟩))).run Try.prog w = .ok (.agg (anC r).toArray) w := by
  obtain ⟨fs, hu⟩ := und_an
  refine loadAt_cs hu info_an fun i hi => ?_
  rw [cell_of_row _ _ _ _ _ _ hg]
  have := flat_at anC_length L j i r hj hi
  simp only [List.getElem?_toArray]
  rw [this, List.getElem?_eq_getElem hi]
theorem an_args {w : World} {g : Nat} {T : TypeId} {fr : Nat × Nat} {r : Int × AgT × Int} (hg : w.heap[g]? = some (.cells (anC r).toArray T fr)) : (Instr.loadAt 35 (.pointer (some ⟨g, 1, none⟩))).run Try.prog w = .ok (.agg (agC r.2.1).toArray) w := by
  refine loadAt_cs Try.underlying35 (by kernel_rfl) fun i hi => ?_
  rw [cell_of_row _ _ _ _ _ _ hg]
  unfold anC
  simp only [List.getElem?_toArray]
  rw [Nat.add_comm 1 i, List.getElem?_cons_succ, List.getElem?_append_left hi, List.getElem?_eq_getElem hi]
theorem an_cells {w : World} {g : Nat} {T : TypeId} {fr : Nat × Nat} {r : Int × AgT × Int} (hg : w.heap[g]? = some (.cells (anC r).toArray T fr)) : w.cell? ⟨g, 0, none⟩ = some (.int .i64 r.1) ∧ w.cell? ⟨g, 17, none⟩ = some (.int .i64 r.2.2) ∧ g < w.heap.size :=
  ⟨by rw [cell_of_row _ _ _ _ _ _ hg]; rfl, by rw [cell_of_row _ _ _ _ _ _ hg]; rfl, (Array.getElem?_eq_some_iff.1 hg).1⟩
theorem new_an (w : World) (r : Int × AgT × Int) : (Instr.storeAt TA (.pointer (some ⟨w.heap.size, 0, none⟩)) (.agg (anC r).toArray)).run Try.prog (w.alloc (.cells #[.int .i64 0, .int .i64 0, .int .i64 0, .int .i64 0, .int .i64 0, .int .i64 0, .int .i64 0, .string ⟨#[]⟩, .string ⟨#[]⟩, .string ⟨#[]⟩, .int .i64 0, .int .i64 0, .int .i64 0, .int .i64 0, .int .i64 0, .int .i64 0, .int .u64 0, .int .i64 0] TA)) = .ok () (w.alloc (.cells (anC r).toArray TA)) := by
  have h : (w.alloc (.cells (anC (0, ag0, 0)).toArray TA)).heap[w.heap.size]? = some (.cells (anC (0, ag0, 0)).toArray TA (0, 0)) := heap_alloc_last w _
  have := storeAt_row (P := Try.prog) (ty := TA) (cs := (anC r).toArray) h (by rw [info_an]; rfl) rfl (by simp [anC, agC, Value.oneCell'])
  rw [World.setRow_alloc_new] at this
  exact this

/-! The table of results: each row's entries lie at a value. -/
def rnC (r : (Int × RsT × Int) × Value) : List Value := .int .i64 r.1.1 :: (rsC r.1.2.1 r.2 ++ [.int .i64 r.1.2.2])
theorem rnC_length (r : (Int × RsT × Int) × Value) : (rnC r).length = 21 := rfl
def nS : Value := .slice none 0 0
def rnVs (ge g1 : Nat) : List Value := [nS, nS, nS, nS, nS, nS, nS, nS, nS, nS, nS, nS, nS, .slice (some ⟨ge, 0, none⟩) 64 65, .slice (some ⟨ge, 0, none⟩) 65 65, .slice (some ⟨g1, 0, none⟩) 1 1, nS, nS, nS, nS, nS, nS, nS, nS]
def rnRows (ge g1 : Nat) : List ((Int × RsT × Int) × Value) := rnTab.zip (rnVs ge g1)
theorem rnRows_tab {ge g1 : Nat} {r : (Int × RsT × Int) × Value} (h : r ∈ rnRows ge g1) : r.1 ∈ rnTab := (List.of_mem_zip (a := r.1) (b := r.2) h).1
def enQ (y : EnT) : Bool := decide (y.name.length ≤ 100000) && decide (-9223372036854775808 ≤ y.ino ∧ y.ino ≤ 9223372036854775807) && decide (-9223372036854775808 ≤ y.cookie ∧ y.cookie ≤ 9223372036854775807)
def i64B (n : Int) : Bool := decide (-9223372036854775808 ≤ n ∧ n ≤ 9223372036854775807)
theorem i64B_ok {n : Int} (h : i64B n = true) : I64 n := by unfold i64B at h; simpa [I64] using h
def okwB (x : RsT) : Bool := i64B x.e && (i64B x.h.1 && i64B x.h.2.1 && i64B x.h.2.2) && (decide (0 ≤ x.at_.kind ∧ x.at_.kind ≤ 255) && i64B x.at_.mode && i64B x.at_.links && i64B x.at_.size && i64B x.at_.mtime && i64B x.at_.ctime && i64B x.at_.ino && i64B x.at_.gen) &&
  (decide (x.text.length ≤ 20000) && i64B x.n && i64B x.free && decide (0 ≤ x.used ∧ x.used ≤ 18446744073709551615) && decide (0 ≤ x.verf ∧ x.verf ≤ 18446744073709551615)) && (x.ents.all enQ && decide (x.ents.length ≤ 100000))
theorem okwB_ok {x : RsT} (h : okwB x = true) : x.Okw ∧ I64 x.e := by
  unfold okwB at h
  simp only [Bool.and_eq_true, decide_eq_true_eq, List.all_eq_true] at h
  obtain ⟨⟨⟨⟨h1, ⟨h2, h3⟩, h4⟩, ⟨⟨⟨⟨⟨⟨h5, h6⟩, h7⟩, h8⟩, h9⟩, h10⟩, h11⟩, h12⟩, ⟨⟨⟨h13, h14⟩, h15⟩, h16⟩, h17⟩, h18, h19⟩ := h
  refine ⟨⟨⟨i64B_ok h2, i64B_ok h3, i64B_ok h4⟩, ⟨h5, i64B_ok h6, i64B_ok h7, i64B_ok h8, i64B_ok h9, i64B_ok h10, i64B_ok h11, i64B_ok h12⟩, h13, i64B_ok h14, i64B_ok h15, h16, h17, fun y hy => ?_, h19⟩, i64B_ok h1⟩
  have hy' := h18 y hy
  unfold enQ at hy'
  simp only [Bool.and_eq_true, decide_eq_true_eq] at hy'
  exact ⟨⟨by unfold maxLen; omega, hy'.1.2, hy'.2⟩, hy'.1.1⟩
theorem rn_okB : ∀ r ∈ rnTab, (okwB r.2.1 && i64B r.1 && decide ((aT r.1 r.2.1).1.length ≤ 20000)) = true := by decide +kernel
theorem rn_backB : ∀ r ∈ rnTab, r.2.2 = 0 → aH r.1 (aT r.1 r.2.1).1 = (r.2.1, 0) := by decide +kernel
theorem rn_ok {r : Int × RsT × Int} (hr : r ∈ rnTab) : r.2.1.Okw ∧ I64 r.2.1.e ∧ I64 r.1 ∧ (aT r.1 r.2.1).1.length ≤ 20000 := by
  have h := rn_okB r hr
  simp only [Bool.and_eq_true, decide_eq_true_eq] at h
  obtain ⟨h1, h2⟩ := okwB_ok h.1.1
  exact ⟨h1, h2, i64B_ok h.1.2, h.2⟩
abbrev TR : TypeId := 77
theorem info_rn : (Try.prog.info? TR).map (·.size) = some 21 := by kernel_rfl
theorem und_rn : ∃ fs, Try.prog.underlying TR = some (.struct fs) := ⟨_, Try.underlying77⟩
theorem rn_ld {w : World} {g j : Nat} {T : TypeId} {fr : Nat × Nat} {L : List ((Int × RsT × Int) × Value)} {r : (Int × RsT × Int) × Value} (hg : w.heap[g]? = some (.cells (L.flatMap rnC).toArray T fr)) (hj : L[j]? = some r) : (Instr.loadAt TR (.pointer (some ⟨g, j * 21, none⟩))).run Try.prog w = .ok (.agg (rnC r).toArray) w := by
  obtain ⟨fs, hu⟩ := und_rn
  refine loadAt_cs hu info_rn fun i hi => ?_
  rw [cell_of_row _ _ _ _ _ _ hg]
  have := flat_at rnC_length L j i r hj hi
  simp only [List.getElem?_toArray]
  rw [this, List.getElem?_eq_getElem hi]
theorem rn_res {w : World} {g : Nat} {T : TypeId} {fr : Nat × Nat} {r : (Int × RsT × Int) × Value} (hg : w.heap[g]? = some (.cells (rnC r).toArray T fr)) : (Instr.loadAt 41 (.pointer (some ⟨g, 1, none⟩))).run Try.prog w = .ok (.agg (rsC r.1.2.1 r.2).toArray) w := by
  refine loadAt_cs Try.underlying41 (by kernel_rfl) fun i hi => ?_
  rw [cell_of_row _ _ _ _ _ _ hg]
  unfold rnC
  simp only [List.getElem?_toArray]
  rw [Nat.add_comm 1 i, List.getElem?_cons_succ, List.getElem?_append_left hi, List.getElem?_eq_getElem hi]
theorem rn_cells {w : World} {g : Nat} {T : TypeId} {fr : Nat × Nat} {r : (Int × RsT × Int) × Value} (hg : w.heap[g]? = some (.cells (rnC r).toArray T fr)) : w.cell? ⟨g, 0, none⟩ = some (.int .i64 r.1.1) ∧ w.cell? ⟨g, 20, none⟩ = some (.int .i64 r.1.2.2) ∧ g < w.heap.size :=
  ⟨by rw [cell_of_row _ _ _ _ _ _ hg]; rfl, by rw [cell_of_row _ _ _ _ _ _ hg]; rfl, (Array.getElem?_eq_some_iff.1 hg).1⟩
theorem new_rn (w : World) (r : (Int × RsT × Int) × Value) (A : Option Addr) (n c : Nat) (hr : r.2 = .slice A n c) : (Instr.storeAt TR (.pointer (some ⟨w.heap.size, 0, none⟩)) (.agg (rnC r).toArray)).run Try.prog (w.alloc (.cells #[.int .i64 0, .int .i64 0, .int .i64 0, .int .i64 0, .int .i64 0, .int .u8 0, .int .i64 0, .int .i64 0, .int .i64 0, .int .i64 0, .int .i64 0, .int .i64 0, .int .i64 0, .string ⟨#[]⟩, .int .i64 0, .int .i64 0, .int .u64 0, .bool false, .slice none 0 0, .int .u64 0, .int .i64 0] TR)) = .ok () (w.alloc (.cells (rnC r).toArray TR)) := by
  have h : (w.alloc (.cells (rnC ((0, rs0, 0), nS)).toArray TR)).heap[w.heap.size]? = some (.cells (rnC ((0, rs0, 0), nS)).toArray TR (0, 0)) := heap_alloc_last w _
  have := storeAt_row (P := Try.prog) (ty := TR) (cs := (rnC r).toArray) h (by rw [info_rn]; rfl) rfl (by simp [rnC, rsC, Value.oneCell', hr])
  rw [World.setRow_alloc_new] at this
  exact this
/-! Entries. -/
theorem en_row {w : World} {ge n c : Nat} {L : List EnT} {T : TypeId} {fr : Nat × Nat} (hg : w.heap[ge]? = some (.cells (L.flatMap enC).toArray T fr)) (hn : n ≤ L.length) (hc : n ≤ c) : EnR w (.slice (some ⟨ge, 0, none⟩) n c) (L.take n) := by
  have hl : (L.take n).length = n := by simp; omega
  have hlen := flat_length enC_len (L.take n)
  refine ⟨by rw [hlen], ?_⟩
  refine .inr ⟨ge, 0, c, by rw [hl], (Array.getElem?_eq_some_iff.1 hg).1, by rw [hl]; exact hc, fun j hj => ?_⟩
  rw [cell_of_row _ _ _ _ _ _ hg, Nat.zero_add]
  simp only [List.getElem?_toArray]
  have e : L.flatMap enC = (L.take n).flatMap enC ++ (L.drop n).flatMap enC := by rw [← List.flatMap_append, List.take_append_drop]
  rw [e, List.getElem?_append_left hj, List.getElem?_eq_getElem hj]
theorem rn_ents {w : World} {ge g1 : Nat} (h13 : EnR w (.slice (some ⟨ge, 0, none⟩) 64 65) (List.replicate 64 en0)) (h14 : EnR w (.slice (some ⟨ge, 0, none⟩) 65 65) (List.replicate 65 en0)) (h15 : EnR w (.slice (some ⟨g1, 0, none⟩) 1 1) [⟨zr 256, 0, 0⟩]) :
    ∀ x ∈ rnRows ge g1, EnR w x.2 x.1.2.1.ents ∧ ∃ A n c, x.2 = .slice A n c := by
  intro x hx
  simp only [rnRows, rnTab, rnVs, List.zip_cons_cons, List.zip_nil_right, List.mem_cons, List.not_mem_nil, or_false] at hx
  rcases hx with rfl | rfl | rfl | rfl | rfl | rfl | rfl | rfl | rfl | rfl | rfl | rfl | rfl | rfl | rfl | rfl | rfl | rfl | rfl | rfl | rfl | rfl | rfl | rfl <;> first | exact ⟨RR.nil, _, _, _, rfl⟩ | exact ⟨h13, _, _, _, rfl⟩ | exact ⟨h14, _, _, _, rfl⟩ | exact ⟨h15, _, _, _, rfl⟩
theorem mk65 (w : World) : (Instr.makeSlice 39 (.int .i64 65) (.int .i64 65)).run Try.prog w = .ok (.slice (some ⟨w.heap.size, 0, none⟩) 65 65) (w.alloc (.cells ((List.replicate 65 en0).flatMap enC).toArray 66)) := by kernel_rfl
theorem aRead_e (p : Int) (s : List UInt8) (S : ByteArray) (a : AgT) (E : Int) (hS : S = str s) (h : aR p s = (a, E)) (hp : I64 p) (hs : s.length ≤ 20000) (w : World) :
    Calls Try.prog 28 #[.int .i64 p, .string S] w fun e w' => e = .returned (.tuple #[.agg (agC a).toArray, .int .i64 E]) ∧ Below w.heap.size w w' := by
  subst hS
  have := aRead_any p s w hp hs
  rw [h] at this
  exact this
theorem neq_same05 (a : AgT) (w : World) : (binOp .neq 35 (.agg (agC a).toArray) (.agg (agC a).toArray)).run Try.prog w = .ok (.bool false) w := by
  unfold agC
  go_simp
theorem new_ag05 (w : World) (A : AgT) : (Instr.storeAt 35 (.pointer (some ⟨w.heap.size, 0, none⟩)) (.agg (agC A).toArray)).run Try.prog (w.alloc (.cells #[.int .i64 0, .int .i64 0, .int .i64 0, .int .i64 0, .int .i64 0, .int .i64 0, .string ⟨#[]⟩, .string ⟨#[]⟩, .string ⟨#[]⟩, .int .i64 0, .int .i64 0, .int .i64 0, .int .i64 0, .int .i64 0, .int .i64 0, .int .u64 0] 35)) = .ok () (w.alloc (.cells (agC A).toArray 35)) := by
  have h : (w.alloc (.cells (agC ag0).toArray 35)).heap[w.heap.size]? = some (.cells (agC ag0).toArray 35 (0, 0)) := heap_alloc_last w _
  have := storeAg (a := A) h
  rw [World.setRow_alloc_new] at this
  exact this
end Go.Proofs.Yteahlnoonmfjhaa
