/- Texts of mine in one: AnD, AnE, AnF, AnG. No statement of its own. -/
import Derived.Test.YteahlnoonmfjhaaAnA
import Derived.Test.YteahlnoonmfjhaaAnC
import Derived.Test.YteahlnoonmfjhaaRsG
import Derived.Test.YteahlnoonmfjhaaRsN
import Derived.Great.CaseRows
set_option linter.unusedVariables false
set_option maxRecDepth 100000
namespace Go.Proofs.Yteahlnoonmfjhaa
section
set_option linter.unusedVariables false
set_option maxRecDepth 100000
open Go.RowKit

/-! A slice literal of structs of sz cells each. -/
theorem run_bsN {P : Program} {t e : TypeId} {sz : Nat} (w : World) (vs : List (List Value)) (hu : P.underlying t = some (.slice e)) (hi : (P.info? e).map (·.size) = some sz) (hz : ((P.info? e).bind (·.zero)).isSome = true) (h0 : 0 < sz) (h1 : 0 < vs.length) (hs : vs.length * sz ≤ 2 ^ 24) (hl : ∀ v ∈ vs, v.length = sz)
    {parts : Array (Nat × Value)} (hp : parts.toList = ((vs.map fun c => Value.agg c.toArray).zipIdx 0).map fun x => (x.2, x.1)) :
    (Instr.buildSlice t vs.length parts).run P w = .ok (.slice (some ⟨w.heap.size, 0, none⟩) vs.length vs.length) (w.alloc (.cells (vs.flatMap id).toArray e)) := by
  cases hie : P.info? e with
  | none => rw [hie] at hi; simp at hi
  | some ie =>
    rw [hie] at hi hz
    simp only [Option.map_some, Option.some.injEq, Option.bind_some] at hi hz
    obtain ⟨z, hzz⟩ := Option.isSome_iff_exists.1 hz
    have hpos : 0 < vs.length * sz := Nat.mul_pos h1 h0
    refine Go.run_buildSlice w t e vs.length _ (vs.flatMap id).toArray ie z hu hie hzz (by rw [hi]; omega) (by rw [hi]; omega) ?_
    have hc : ∀ v ∈ vs.map fun c => Value.agg c.toArray, v.cells.size = sz := by
      intro v hv
      obtain ⟨c, hc, rfl⟩ := List.mem_map.1 hv
      simpa [Value.cells] using hl c hc
    rw [hp, hi, Go.Great.fill_whole h0 _ _ hc (by simp)]
    simp [Value.cells, List.flatMap_map]
theorem wpList_bsN {P : Program} {ops : Array Oper} {rest : List Oper} {o : Oper} {a : Act} {w : World} {Q : Exit → Act → World → Prop} (t e : TypeId) (sz n : Nat) (vs : List (List Value)) (parts : Array (Nat × Operand)) (hg : o.guard = none) (ho : o.op = .buildSlice t n parts) (hn : vs.length = n) (hu : P.underlying t = some (.slice e)) (hi : (P.info? e).map (·.size) = some sz) (hz : ((P.info? e).bind (·.zero)).isSome = true) (h0 : 0 < sz) (h1 : 0 < vs.length) (hs : vs.length * sz ≤ 2 ^ 24) (hl : ∀ v ∈ vs, v.length = sz)
    (hp : (parts.map fun z => (z.1, a.eval z.2)).toList = ((vs.map fun c => Value.agg c.toArray).zipIdx 0).map fun x => (x.2, x.1))
    (h : wpList P ops Q rest (a.put o.dst (.slice (some ⟨w.heap.size, 0, none⟩) n n)) (w.alloc (.cells (vs.flatMap id).toArray e))) : wpList P ops Q (o :: rest) a w := by
  subst hn
  refine wpList_plain hg fun K hK => ?_
  unfold Oper.wp execOp
  simp only [ho, Sem.run_bind, run_bsN w vs hu hi hz h0 h1 hs hl hp, Result.andThen_ok, Sem.run_pure]
  exact hK _ _ h

/-! The table of arguments. -/
def anC (r : Int × AgT × Int) : List Value := .int .i64 r.1 :: (agC r.2.1 ++ [.int .i64 r.2.2])
theorem anC_length (r : Int × AgT × Int) : (anC r).length = 18 := rfl
def okB (a : AgT) : Bool := decide ((-9223372036854775808 ≤ a.h.1 ∧ a.h.1 ≤ 9223372036854775807) ∧ (-9223372036854775808 ≤ a.h.2.1 ∧ a.h.2.1 ≤ 9223372036854775807) ∧ (-9223372036854775808 ≤ a.h.2.2 ∧ a.h.2.2 ≤ 9223372036854775807)) && decide ((-9223372036854775808 ≤ a.t.1 ∧ a.t.1 ≤ 9223372036854775807) ∧ (-9223372036854775808 ≤ a.t.2.1 ∧ a.t.2.1 ≤ 9223372036854775807) ∧ (-9223372036854775808 ≤ a.t.2.2 ∧ a.t.2.2 ≤ 9223372036854775807)) &&
  (decide (a.name.length ≤ 20000) && decide (a.other.length ≤ 20000) && decide (a.text.length ≤ 20000)) && decide ((-9223372036854775808 ≤ a.at_ ∧ a.at_ ≤ 9223372036854775807) ∧ (-9223372036854775808 ≤ a.n ∧ a.n ≤ 9223372036854775807) ∧ (-9223372036854775808 ≤ a.mode ∧ a.mode ≤ 9223372036854775807)) &&
  decide ((-9223372036854775808 ≤ a.size ∧ a.size ≤ 9223372036854775807) ∧ (-9223372036854775808 ≤ a.stable ∧ a.stable ≤ 9223372036854775807) ∧ (-9223372036854775808 ≤ a.guard ∧ a.guard ≤ 9223372036854775807)) && decide (0 ≤ a.verf ∧ a.verf ≤ 18446744073709551615)
theorem okB_ok {a : AgT} (h : okB a = true) : a.Ok := by
  unfold okB at h
  simp only [Bool.and_eq_true, decide_eq_true_eq] at h
  obtain ⟨⟨⟨⟨⟨h1, h2⟩, ⟨h3, h4⟩, h5⟩, h6, h7, h8⟩, h9, h10, h11⟩, h12⟩ := h
  exact ⟨h1, h2, h3, h4, h5, h6, h7, h8, h9, h10, h11, h12⟩
theorem an_okB : ∀ r ∈ anTab, (okB r.2.1 && decide (-9223372036854775808 ≤ r.1 ∧ r.1 ≤ 9223372036854775807) && decide ((aW r.1 r.2.1).1.length ≤ 20000)) = true := by decide +kernel
theorem an_ok {r : Int × AgT × Int} (hr : r ∈ anTab) : r.2.1.Ok ∧ I64 r.1 ∧ (aW r.1 r.2.1).1.length ≤ 20000 := by
  have h := an_okB r hr
  simp only [Bool.and_eq_true, decide_eq_true_eq] at h
  exact ⟨okB_ok h.1.1, h.1.2, h.2⟩
abbrev TA : TypeId := 68
theorem info_an : (Try.prog.info? TA).map (·.size) = some 18 := by kernel_rfl
theorem und_an : ∃ fs, Try.prog.underlying TA = some (.struct fs) := ⟨_, Try.underlying68⟩
theorem an_ld {w : World} {g j : Nat} {T : TypeId} {fr : Nat × Nat} {L : List (Int × AgT × Int)} {r : Int × AgT × Int} (hg : w.heap[g]? = some (.cells (L.flatMap anC).toArray T fr)) (hj : L[j]? = some r) : (Instr.loadAt TA (.pointer (some ⟨g, j * 18, none⟩))).run Try.prog w = .ok (.agg (anC r).toArray) w := by
  obtain ⟨fs, hu⟩ := und_an
  refine loadAt_cs hu info_an fun i hi => ?_
  rw [cell_of_row _ _ _ _ _ _ hg]
  have := flat_at anC_length L j i r hj hi
  simp only [List.getElem?_toArray]
  rw [this, List.getElem?_eq_getElem hi]
theorem an_args {w : World} {g : Nat} {T : TypeId} {fr : Nat × Nat} {r : Int × AgT × Int} (hg : w.heap[g]? = some (.cells (anC r).toArray T fr)) : (Instr.loadAt 35 (.pointer (some ⟨g, 1, none⟩))).run Try.prog w = .ok (.agg (agC r.2.1).toArray) w := by
  refine loadAt_cs Try.underlying35 (by kernel_rfl) fun i hi => ?_
  rw [cell_of_row _ _ _ _ _ _ hg]
  unfold anC
  simp only [List.getElem?_toArray]
  rw [Nat.add_comm 1 i, List.getElem?_cons_succ, List.getElem?_append_left hi, List.getElem?_eq_getElem hi]
theorem an_cells {w : World} {g : Nat} {T : TypeId} {fr : Nat × Nat} {r : Int × AgT × Int} (hg : w.heap[g]? = some (.cells (anC r).toArray T fr)) : w.cell? ⟨g, 0, none⟩ = some (.int .i64 r.1) ∧ w.cell? ⟨g, 17, none⟩ = some (.int .i64 r.2.2) ∧ g < w.heap.size :=
  ⟨by rw [cell_of_row _ _ _ _ _ _ hg]; rfl, by rw [cell_of_row _ _ _ _ _ _ hg]; rfl, (Array.getElem?_eq_some_iff.1 hg).1⟩
theorem new_an (w : World) (r : Int × AgT × Int) : (Instr.storeAt TA (.pointer (some ⟨w.heap.size, 0, none⟩)) (.agg (anC r).toArray)).run Try.prog (w.alloc (.cells #[.int .i64 0, .int .i64 0, .int .i64 0, .int .i64 0, .int .i64 0, .int .i64 0, .int .i64 0, .string ⟨#[]⟩, .string ⟨#[]⟩, .string ⟨#[]⟩, .int .i64 0, .int .i64 0, .int .i64 0, .int .i64 0, .int .i64 0, .int .i64 0, .int .u64 0, .int .i64 0] TA)) = .ok () (w.alloc (.cells (anC r).toArray TA)) := by
  have h : (w.alloc (.cells (anC (0, ag0, 0)).toArray TA)).heap[w.heap.size]? = some (.cells (anC (0, ag0, 0)).toArray TA (0, 0)) := heap_alloc_last w _
  have := storeAt_row (P := Try.prog) (ty := TA) (cs := (anC r).toArray) h (by rw [info_an]; rfl) rfl (by simp [anC, agC, Value.oneCell'])
  rw [World.setRow_alloc_new] at this
  exact this

/-! The table of results: each row's entries lie at a value. -/
def rnC (r : (Int × RsT × Int) × Value) : List Value := .int .i64 r.1.1 :: (rsC r.1.2.1 r.2 ++ [.int .i64 r.1.2.2])
theorem rnC_length (r : (Int × RsT × Int) × Value) : (rnC r).length = 21 := rfl
def nS : Value := .slice none 0 0
def rnVs (ge g1 : Nat) : List Value := [nS, nS, nS, nS, nS, nS, nS, nS, nS, nS, nS, nS, nS, .slice (some ⟨ge, 0, none⟩) 64 65, .slice (some ⟨ge, 0, none⟩) 65 65, .slice (some ⟨g1, 0, none⟩) 1 1, nS, nS, nS, nS, nS, nS, nS, nS]
def rnRows (ge g1 : Nat) : List ((Int × RsT × Int) × Value) := rnTab.zip (rnVs ge g1)
theorem rnRows_tab {ge g1 : Nat} {r : (Int × RsT × Int) × Value} (h : r ∈ rnRows ge g1) : r.1 ∈ rnTab := (List.of_mem_zip (a := r.1) (b := r.2) h).1
def enQ (y : EnT) : Bool := decide (y.name.length ≤ 100000) && decide (-9223372036854775808 ≤ y.ino ∧ y.ino ≤ 9223372036854775807) && decide (-9223372036854775808 ≤ y.cookie ∧ y.cookie ≤ 9223372036854775807)
def i64B (n : Int) : Bool := decide (-9223372036854775808 ≤ n ∧ n ≤ 9223372036854775807)
theorem i64B_ok {n : Int} (h : i64B n = true) : I64 n := by unfold i64B at h; simpa [I64] using h
def okwB (x : RsT) : Bool := i64B x.e && (i64B x.h.1 && i64B x.h.2.1 && i64B x.h.2.2) && (decide (0 ≤ x.at_.kind ∧ x.at_.kind ≤ 255) && i64B x.at_.mode && i64B x.at_.links && i64B x.at_.size && i64B x.at_.mtime && i64B x.at_.ctime && i64B x.at_.ino && i64B x.at_.gen) &&
  (decide (x.text.length ≤ 20000) && i64B x.n && i64B x.free && decide (0 ≤ x.used ∧ x.used ≤ 18446744073709551615) && decide (0 ≤ x.verf ∧ x.verf ≤ 18446744073709551615)) && (x.ents.all enQ && decide (x.ents.length ≤ 100000))
theorem okwB_ok {x : RsT} (h : okwB x = true) : x.Okw ∧ I64 x.e := by
  unfold okwB at h
  simp only [Bool.and_eq_true, decide_eq_true_eq, List.all_eq_true] at h
  obtain ⟨⟨⟨⟨h1, ⟨h2, h3⟩, h4⟩, ⟨⟨⟨⟨⟨⟨h5, h6⟩, h7⟩, h8⟩, h9⟩, h10⟩, h11⟩, h12⟩, ⟨⟨⟨h13, h14⟩, h15⟩, h16⟩, h17⟩, h18, h19⟩ := h
  refine ⟨⟨⟨i64B_ok h2, i64B_ok h3, i64B_ok h4⟩, ⟨h5, i64B_ok h6, i64B_ok h7, i64B_ok h8, i64B_ok h9, i64B_ok h10, i64B_ok h11, i64B_ok h12⟩, h13, i64B_ok h14, i64B_ok h15, h16, h17, fun y hy => ?_, h19⟩, i64B_ok h1⟩
  have hy' := h18 y hy
  unfold enQ at hy'
  simp only [Bool.and_eq_true, decide_eq_true_eq] at hy'
  exact ⟨⟨by unfold maxLen; omega, hy'.1.2, hy'.2⟩, hy'.1.1⟩
theorem rn_okB : ∀ r ∈ rnTab, (okwB r.2.1 && i64B r.1 && decide ((aT r.1 r.2.1).1.length ≤ 20000)) = true := by decide +kernel
theorem rn_backB : ∀ r ∈ rnTab, r.2.2 = 0 → aH r.1 (aT r.1 r.2.1).1 = (r.2.1, 0) := by decide +kernel
theorem rn_ok {r : Int × RsT × Int} (hr : r ∈ rnTab) : r.2.1.Okw ∧ I64 r.2.1.e ∧ I64 r.1 ∧ (aT r.1 r.2.1).1.length ≤ 20000 := by
  have h := rn_okB r hr
  simp only [Bool.and_eq_true, decide_eq_true_eq] at h
  obtain ⟨h1, h2⟩ := okwB_ok h.1.1
  exact ⟨h1, h2, i64B_ok h.1.2, h.2⟩
abbrev TR : TypeId := 77
theorem info_rn : (Try.prog.info? TR).map (·.size) = some 21 := by kernel_rfl
theorem und_rn : ∃ fs, Try.prog.underlying TR = some (.struct fs) := ⟨_, Try.underlying77⟩
theorem rn_ld {w : World} {g j : Nat} {T : TypeId} {fr : Nat × Nat} {L : List ((Int × RsT × Int) × Value)} {r : (Int × RsT × Int) × Value} (hg : w.heap[g]? = some (.cells (L.flatMap rnC).toArray T fr)) (hj : L[j]? = some r) : (Instr.loadAt TR (.pointer (some ⟨g, j * 21, none⟩))).run Try.prog w = .ok (.agg (rnC r).toArray) w := by
  obtain ⟨fs, hu⟩ := und_rn
  refine loadAt_cs hu info_rn fun i hi => ?_
  rw [cell_of_row _ _ _ _ _ _ hg]
  have := flat_at rnC_length L j i r hj hi
  simp only [List.getElem?_toArray]
  rw [this, List.getElem?_eq_getElem hi]
theorem rn_res {w : World} {g : Nat} {T : TypeId} {fr : Nat × Nat} {r : (Int × RsT × Int) × Value} (hg : w.heap[g]? = some (.cells (rnC r).toArray T fr)) : (Instr.loadAt 41 (.pointer (some ⟨g, 1, none⟩))).run Try.prog w = .ok (.agg (rsC r.1.2.1 r.2).toArray) w := by
  refine loadAt_cs Try.underlying41 (by kernel_rfl) fun i hi => ?_
  rw [cell_of_row _ _ _ _ _ _ hg]
  unfold rnC
  simp only [List.getElem?_toArray]
  rw [Nat.add_comm 1 i, List.getElem?_cons_succ, List.getElem?_append_left hi, List.getElem?_eq_getElem hi]
theorem rn_cells {w : World} {g : Nat} {T : TypeId} {fr : Nat × Nat} {r : (Int × RsT × Int) × Value} (hg : w.heap[g]? = some (.cells (rnC r).toArray T fr)) : w.cell? ⟨g, 0, none⟩ = some (.int .i64 r.1.1) ∧ w.cell? ⟨g, 20, none⟩ = some (.int .i64 r.1.2.2) ∧ g < w.heap.size :=
  ⟨by rw [cell_of_row _ _ _ _ _ _ hg]; rfl, by rw [cell_of_row _ _ _ _ _ _ hg]; rfl, (Array.getElem?_eq_some_iff.1 hg).1⟩
theorem new_rn (w : World) (r : (Int × RsT × Int) × Value) (A : Option Addr) (n c : Nat) (hr : r.2 = .slice A n c) : (Instr.storeAt TR (.pointer (some ⟨w.heap.size, 0, none⟩)) (.agg (rnC r).toArray)).run Try.prog (w.alloc (.cells #[.int .i64 0, .int .i64 0, .int .i64 0, .int .i64 0, .int .i64 0, .int .u8 0, .int .i64 0, .int .i64 0, .int .i64 0, .int .i64 0, .int .i64 0, .int .i64 0, .int .i64 0, .string ⟨#[]⟩, .int .i64 0, .int .i64 0, .int .u64 0, .bool false, .slice none 0 0, .int .u64 0, .int .i64 0] TR)) = .ok () (w.alloc (.cells (rnC r).toArray TR)) := by
  have h : (w.alloc (.cells (rnC ((0, rs0, 0), nS)).toArray TR)).heap[w.heap.size]? = some (.cells (rnC ((0, rs0, 0), nS)).toArray TR (0, 0)) := heap_alloc_last w _
  have := storeAt_row (P := Try.prog) (ty := TR) (cs := (rnC r).toArray) h (by rw [info_rn]; rfl) rfl (by simp [rnC, rsC, Value.oneCell', hr])
  rw [World.setRow_alloc_new] at this
  exact this
/-! Entries. -/
theorem en_row {w : World} {ge n c : Nat} {L : List EnT} {T : TypeId} {fr : Nat × Nat} (hg : w.heap[ge]? = some (.cells (L.flatMap enC).toArray T fr)) (hn : n ≤ L.length) (hc : n ≤ c) : EnR w (.slice (some ⟨ge, 0, none⟩) n c) (L.take n) := by
  have hl : (L.take n).length = n := by simp; omega
  have hlen := flat_length enC_len (L.take n)
  refine ⟨by rw [hlen], ?_⟩
  refine .inr ⟨ge, 0, c, by rw [hl], (Array.getElem?_eq_some_iff.1 hg).1, by rw [hl]; exact hc, fun j hj => ?_⟩
  rw [cell_of_row _ _ _ _ _ _ hg, Nat.zero_add]
  simp only [List.getElem?_toArray]
  have e : L.flatMap enC = (L.take n).flatMap enC ++ (L.drop n).flatMap enC := by rw [← List.flatMap_append, List.take_append_drop]
  rw [e, List.getElem?_append_left hj, List.getElem?_eq_getElem hj]
theorem rn_ents {w : World} {ge g1 : Nat} (h13 : EnR w (.slice (some ⟨ge, 0, none⟩) 64 65) (List.replicate 64 en0)) (h14 : EnR w (.slice (some ⟨ge, 0, none⟩) 65 65) (List.replicate 65 en0)) (h15 : EnR w (.slice (some ⟨g1, 0, none⟩) 1 1) [⟨zr 256, 0, 0⟩]) :
    ∀ x ∈ rnRows ge g1, EnR w x.2 x.1.2.1.ents ∧ ∃ A n c, x.2 = .slice A n c := by
  intro x hx
  simp only [rnRows, rnTab, rnVs, List.zip_cons_cons, List.zip_nil_right, List.mem_cons, List.not_mem_nil, or_false] at hx
  rcases hx with rfl | rfl | rfl | rfl | rfl | rfl | rfl | rfl | rfl | rfl | rfl | rfl | rfl | rfl | rfl | rfl | rfl | rfl | rfl | rfl | rfl | rfl | rfl | rfl <;> first | exact ⟨RR.nil, _, _, _, rfl⟩ | exact ⟨h13, _, _, _, rfl⟩ | exact ⟨h14, _, _, _, rfl⟩ | exact ⟨h15, _, _, _, rfl⟩
theorem mk65 (w : World) : (Instr.makeSlice 39 (.int .i64 65) (.int .i64 65)).run Try.prog w = .ok (.slice (some ⟨w.heap.size, 0, none⟩) 65 65) (w.alloc (.cells ((List.replicate 65 en0).flatMap enC).toArray 66)) := by kernel_rfl
theorem aRead_e (p : Int) (s : List UInt8) (S : ByteArray) (a : AgT) (E : Int) (hS : S = str s) (h : aR p s = (a, E)) (hp : I64 p) (hs : s.length ≤ 20000) (w : World) :
    Calls Try.prog 28 #[.int .i64 p, .string S] w fun e w' => e = .returned (.tuple #[.agg (agC a).toArray, .int .i64 E]) ∧ Below w.heap.size w w' := by
  subst hS
  have := aRead_any p s w hp hs
  rw [h] at this
  exact this
theorem neq_same05 (a : AgT) (w : World) : (binOp .neq 35 (.agg (agC a).toArray) (.agg (agC a).toArray)).run Try.prog w = .ok (.bool false) w := by
  unfold agC
  go_simp
theorem new_ag05 (w : World) (A : AgT) : (Instr.storeAt 35 (.pointer (some ⟨w.heap.size, 0, none⟩)) (.agg (agC A).toArray)).run Try.prog (w.alloc (.cells #[.int .i64 0, .int .i64 0, .int .i64 0, .int .i64 0, .int .i64 0, .int .i64 0, .string ⟨#[]⟩, .string ⟨#[]⟩, .string ⟨#[]⟩, .int .i64 0, .int .i64 0, .int .i64 0, .int .i64 0, .int .i64 0, .int .i64 0, .int .u64 0] 35)) = .ok () (w.alloc (.cells (agC A).toArray 35)) := by
  have h : (w.alloc (.cells (agC ag0).toArray 35)).heap[w.heap.size]? = some (.cells (agC ag0).toArray 35 (0, 0)) := heap_alloc_last w _
  have := storeAg (a := A) h
  rw [World.setRow_alloc_new] at this
  exact this
end

section
set_option linter.unusedVariables false
set_option maxRecDepth 100000
open Go.RowKit

theorem wp_bsN {P : Program} {o : Oper} {a : Act} {w : World} {K : Act → World → Prop} {Q : Exit → Act → World → Prop} (t e : TypeId) (sz n : Nat) (vs : List (List Value)) (parts : Array (Nat × Operand)) (ho : o.op = .buildSlice t n parts) (hn : vs.length = n) (hu : P.underlying t = some (.slice e)) (hi : (P.info? e).map (·.size) = some sz) (hz : ((P.info? e).bind (·.zero)).isSome = true) (h0 : 0 < sz) (h1 : 0 < n) (hs : n * sz ≤ 2 ^ 24) (hl : ∀ v ∈ vs, v.length = sz)
    (hp : (parts.map fun z => (z.1, a.eval z.2)).toList = ((vs.map fun c => Value.agg c.toArray).zipIdx 0).map fun x => (x.2, x.1))
    (h : K (a.put o.dst (.slice (some ⟨w.heap.size, 0, none⟩) n n)) (w.alloc (.cells (vs.flatMap id).toArray e))) : o.wp P a w K Q := by
  subst hn
  unfold Oper.wp execOp
  simp only [ho, Sem.run_bind, run_bsN w vs hu hi hz h0 h1 hs hl hp, Result.andThen_ok, Sem.run_pure]
  exact h
def x1A : AgT := { ag0 with h := hx 1, mode := 2, size := 3, guard := 4 }
def x2A : AgT := { ag0 with h := hx 1, t := hx 2, name := [110] }
def x3A : AgT := { ag0 with h := hx 1, at_ := 5, stable := 6, text := [116] }
def x6A : AgT := { ag0 with h := hx 1, t := hx 2, name := [110], other := [111] }
def x4R : RsT := { rs0 with text := [116], end_ := true, at_ := ⟨1, 2, 3, 4, 5, 6, 7, 8⟩ }
def x5R : RsT := { rs0 with ents := [⟨[101], 2, 3⟩], verf := 4 }
def txL (c : UInt8) : List UInt8 := beN 1 4 ++ fixL [c]
theorem q1 : (aW 2 x1A).1 = hbytes 0 1 0 ++ i8L [2, 3, 4] := by decide +kernel
theorem q2 : (aW 13 x2A).1 = hbytes 0 1 0 ++ hbytes 0 2 0 ++ txL 110 := by decide +kernel
theorem q3 : (aW 6 x3A).1 = hbytes 0 1 0 ++ i8L [5, 6] ++ txL 116 := by decide +kernel
theorem q4 : (aT 5 x4R).1 = beN 0 4 ++ txL 116 ++ beN 1 4 ++ beN 1 4 ++ i8L [2, 3, 4, 5, 6, 7, 8] := by decide +kernel
theorem q5 : (aT 14 x5R).1 = beN 0 4 ++ beN 1 4 ++ txL 101 ++ i8L [2, 3] ++ beN 0 4 ++ i8L [4] := by decide +kernel
theorem q6 : (aW 12 x6A).1 = hbytes 0 1 0 ++ txL 110 ++ hbytes 0 2 0 ++ txL 111 := by decide +kernel
theorem aw_k (p : Int) (a : AgT) (V : Value) (hV : V = .agg (agC a).toArray) (he : (aW p a).2 = 0) (hp : I64 p) (hk : a.Ok) (w : World) : Calls Try.prog 26 #[.int .i64 p, V] w fun e w' => e = .returned (.tuple #[.string (str (aW p a).1), .int .i64 0]) ∧ Ext w w' := by
  subst hV
  have := aWrite_any p a w hp hk
  rw [he] at this
  exact this
theorem at_k (p : Int) (x : RsT) (rv V : Value) (hV : V = .agg (rsC x rv).toArray) (he : (aT p x).2 = 0) (hp : I64 p) (hk : okwB x = true) (w : World) (hr : EnR w rv x.ents) : Calls Try.prog 32 #[.int .i64 p, V] w fun e w' => e = .returned (.tuple #[.string (str (aT p x).1), .int .i64 0]) ∧ Ext w w' := by
  subst hV
  obtain ⟨h1, h2⟩ := okwB_ok hk
  have := aTell_any p x rv w hp h1 h2 hr
  rw [he] at this
  exact this
theorem ints_k (ns : List Int) (w : World) (hl : ns.length ≤ 20) (hb : ∀ n ∈ ns, I64 n) : Calls Try.prog 41 #[.slice (some ⟨w.heap.size, 0, none⟩) ns.length ns.length] (w.alloc (.cells (ics ns).toArray 3)) fun e w' => e = .returned (.string (str (i8L ns))) ∧ Ext (w.alloc (.cells (ics ns).toArray 3)) w' := by
  refine ints05_any ns _ _ ⟨by simp [ics], .inr ⟨w.heap.size, 0, ns.length, rfl, by simp, Nat.le_refl _, fun j hj => ?_⟩⟩ hl hb
  rw [cell_of_row _ _ _ _ _ _ (heap_alloc_last w (.cells (ics ns).toArray 3)), Nat.zero_add]
  simp only [List.getElem?_toArray]
  rw [List.getElem?_eq_getElem hj]
/-- All that is told of the six examples, by opaque strings. -/
structure Six (B1 B2 TN TT TO TE W0 W1 I1 I2 I3 I4 I5 T1 T2 T3 T4 T5 T6 P2 P3 P4a P4b P4c P5a P5b P5c P5d P6a P6b : ByteArray) : Prop where
  e1 : B1 ++ I1 = T1
  e2a : B1 ++ B2 = P2
  e2 : P2 ++ TN = T2
  e3a : B1 ++ I2 = P3
  e3 : P3 ++ TT = T3
  e4a : W0 ++ TT = P4a
  e4b : P4a ++ W1 = P4b
  e4c : P4b ++ W1 = P4c
  e4 : P4c ++ I3 = T4
  e5a : W0 ++ W1 = P5a
  e5b : P5a ++ TE = P5b
  e5c : P5b ++ I4 = P5c
  e5d : P5c ++ W0 = P5d
  e5 : P5d ++ I5 = T5
  e6a : B1 ++ TN = P6a
  e6b : P6a ++ B2 = P6b
  e6 : P6b ++ TO = T6
  sP2 : P2.size = 48
  sP3 : P3.size = 40
  sP4a : P4a.size = 12
  sP4b : P4b.size = 16
  sP4c : P4c.size = 20
  sP5a : P5a.size = 8
  sP5b : P5b.size = 16
  sP5c : P5c.size = 32
  sP5d : P5d.size = 36
  sP6a : P6a.size = 32
  sP6b : P6b.size = 56
  sB1 : B1.size = 24
  sB2 : B2.size = 24
  sTN : TN.size = 8
  sTT : TT.size = 8
  sTO : TO.size = 8
  sTE : TE.size = 8
  sW0 : W0.size = 4
  sW1 : W1.size = 4
  sI1 : I1.size = 24
  sI2 : I2.size = 16
  sI3 : I3.size = 56
  sI4 : I4.size = 16
  sI5 : I5.size = 8
  kB1 : ∀ w, Calls Try.prog 40 #[.agg #[.int .i64 0, .int .i64 1, .int .i64 0]] w fun e w' => e = .returned (.string B1) ∧ Ext w w'
  kB2 : ∀ w, Calls Try.prog 40 #[.agg #[.int .i64 0, .int .i64 2, .int .i64 0]] w fun e w' => e = .returned (.string B2) ∧ Ext w w'
  kTN : ∀ w, Calls Try.prog 42 #[.string ⟨#[110]⟩] w fun e w' => e = .returned (.string TN) ∧ Ext w w'
  kTT : ∀ w, Calls Try.prog 42 #[.string ⟨#[116]⟩] w fun e w' => e = .returned (.string TT) ∧ Ext w w'
  kTO : ∀ w, Calls Try.prog 42 #[.string ⟨#[111]⟩] w fun e w' => e = .returned (.string TO) ∧ Ext w w'
  kTE : ∀ w, Calls Try.prog 42 #[.string ⟨#[101]⟩] w fun e w' => e = .returned (.string TE) ∧ Ext w w'
  kW0 : ∀ w, Calls Try.prog 43 #[.int .u32 0] w fun e w' => e = .returned (.string W0) ∧ Ext w w'
  kW1 : ∀ w, Calls Try.prog 43 #[.int .u32 1] w fun e w' => e = .returned (.string W1) ∧ Ext w w'
  kI1 : ∀ w : World, Calls Try.prog 41 #[.slice (some ⟨w.heap.size, 0, none⟩) 3 3] (w.alloc (.cells #[.int .i64 2, .int .i64 3, .int .i64 4] 3)) fun e w' => e = .returned (.string I1) ∧ Ext w w'
  kI2 : ∀ w : World, Calls Try.prog 41 #[.slice (some ⟨w.heap.size, 0, none⟩) 2 2] (w.alloc (.cells #[.int .i64 5, .int .i64 6] 3)) fun e w' => e = .returned (.string I2) ∧ Ext w w'
  kI3 : ∀ w : World, Calls Try.prog 41 #[.slice (some ⟨w.heap.size, 0, none⟩) 7 7] (w.alloc (.cells #[.int .i64 2, .int .i64 3, .int .i64 4, .int .i64 5, .int .i64 6, .int .i64 7, .int .i64 8] 3)) fun e w' => e = .returned (.string I3) ∧ Ext w w'
  kI4 : ∀ w : World, Calls Try.prog 41 #[.slice (some ⟨w.heap.size, 0, none⟩) 2 2] (w.alloc (.cells #[.int .i64 2, .int .i64 3] 3)) fun e w' => e = .returned (.string I4) ∧ Ext w w'
  kI5 : ∀ w : World, Calls Try.prog 41 #[.slice (some ⟨w.heap.size, 0, none⟩) 1 1] (w.alloc (.cells #[.int .i64 4] 3)) fun e w' => e = .returned (.string I5) ∧ Ext w w'
  k1 : ∀ w, Calls Try.prog 26 #[.int .i64 2, .agg #[.int .i64 0, .int .i64 1, .int .i64 0, .int .i64 0, .int .i64 0, .int .i64 0, .string ⟨#[]⟩, .string ⟨#[]⟩, .string ⟨#[]⟩, .int .i64 0, .int .i64 0, .int .i64 2, .int .i64 3, .int .i64 0, .int .i64 4, .int .u64 0]] w fun e w' => e = .returned (.tuple #[.string T1, .int .i64 0]) ∧ Ext w w'
  k2 : ∀ w, Calls Try.prog 26 #[.int .i64 13, .agg #[.int .i64 0, .int .i64 1, .int .i64 0, .int .i64 0, .int .i64 2, .int .i64 0, .string ⟨#[110]⟩, .string ⟨#[]⟩, .string ⟨#[]⟩, .int .i64 0, .int .i64 0, .int .i64 0, .int .i64 0, .int .i64 0, .int .i64 0, .int .u64 0]] w fun e w' => e = .returned (.tuple #[.string T2, .int .i64 0]) ∧ Ext w w'
  k3 : ∀ w, Calls Try.prog 26 #[.int .i64 6, .agg #[.int .i64 0, .int .i64 1, .int .i64 0, .int .i64 0, .int .i64 0, .int .i64 0, .string ⟨#[]⟩, .string ⟨#[]⟩, .string ⟨#[116]⟩, .int .i64 5, .int .i64 0, .int .i64 0, .int .i64 0, .int .i64 6, .int .i64 0, .int .u64 0]] w fun e w' => e = .returned (.tuple #[.string T3, .int .i64 0]) ∧ Ext w w'
  k6 : ∀ w, Calls Try.prog 26 #[.int .i64 12, .agg #[.int .i64 0, .int .i64 1, .int .i64 0, .int .i64 0, .int .i64 2, .int .i64 0, .string ⟨#[110]⟩, .string ⟨#[111]⟩, .string ⟨#[]⟩, .int .i64 0, .int .i64 0, .int .i64 0, .int .i64 0, .int .i64 0, .int .i64 0, .int .u64 0]] w fun e w' => e = .returned (.tuple #[.string T6, .int .i64 0]) ∧ Ext w w'
  k4 : ∀ w, Calls Try.prog 32 #[.int .i64 5, .agg #[.int .i64 0, .int .i64 0, .int .i64 0, .int .i64 0, .int .u8 1, .int .i64 2, .int .i64 3, .int .i64 4, .int .i64 5, .int .i64 6, .int .i64 7, .int .i64 8, .string ⟨#[116]⟩, .int .i64 0, .int .i64 0, .int .u64 0, .bool true, .slice none 0 0, .int .u64 0]] w fun e w' => e = .returned (.tuple #[.string T4, .int .i64 0]) ∧ Ext w w'
  k5 : ∀ w : World, Calls Try.prog 32 #[.int .i64 14, .agg #[.int .i64 0, .int .i64 0, .int .i64 0, .int .i64 0, .int .u8 0, .int .i64 0, .int .i64 0, .int .i64 0, .int .i64 0, .int .i64 0, .int .i64 0, .int .i64 0, .string ⟨#[]⟩, .int .i64 0, .int .i64 0, .int .u64 0, .bool false, .slice (some ⟨w.heap.size, 0, none⟩) 1 1, .int .u64 4]] (w.alloc (.cells #[.string ⟨#[101]⟩, .int .i64 2, .int .i64 3] 66)) fun e w' => e = .returned (.tuple #[.string T5, .int .i64 0]) ∧ Ext w w'
theorem six : Six (str (hbytes 0 1 0)) (str (hbytes 0 2 0)) (str (txL 110)) (str (txL 116)) (str (txL 111)) (str (txL 101)) (str (beN 0 4)) (str (beN 1 4)) (str (i8L [2, 3, 4])) (str (i8L [5, 6])) (str (i8L [2, 3, 4, 5, 6, 7, 8])) (str (i8L [2, 3])) (str (i8L [4]))
    (str (aW 2 x1A).1) (str (aW 13 x2A).1) (str (aW 6 x3A).1) (str (aT 5 x4R).1) (str (aT 14 x5R).1) (str (aW 12 x6A).1)
    (str (hbytes 0 1 0 ++ hbytes 0 2 0)) (str (hbytes 0 1 0 ++ i8L [5, 6])) (str (beN 0 4 ++ txL 116)) (str (beN 0 4 ++ txL 116 ++ beN 1 4)) (str (beN 0 4 ++ txL 116 ++ beN 1 4 ++ beN 1 4))
    (str (beN 0 4 ++ beN 1 4)) (str (beN 0 4 ++ beN 1 4 ++ txL 101)) (str (beN 0 4 ++ beN 1 4 ++ txL 101 ++ i8L [2, 3])) (str (beN 0 4 ++ beN 1 4 ++ txL 101 ++ i8L [2, 3] ++ beN 0 4)) (str (hbytes 0 1 0 ++ txL 110)) (str (hbytes 0 1 0 ++ txL 110 ++ hbytes 0 2 0)) where
  e1 := by rw [q1]; exact str_append _ _
  e2a := str_append _ _
  e2 := by rw [q2]; exact str_append _ _
  e3a := str_append _ _
  e3 := by rw [q3]; exact str_append _ _
  e4a := str_append _ _
  e4b := str_append _ _
  e4c := str_append _ _
  e4 := by rw [q4]; exact str_append _ _
  e5a := str_append _ _
  e5b := str_append _ _
  e5c := str_append _ _
  e5d := str_append _ _
  e5 := by rw [q5]; exact str_append _ _
  e6a := str_append _ _
  e6b := str_append _ _
  e6 := by rw [q6]; exact str_append _ _
  sP2 := by rw [str_size]; decide +kernel
  sP3 := by rw [str_size]; decide +kernel
  sP4a := by rw [str_size]; decide +kernel
  sP4b := by rw [str_size]; decide +kernel
  sP4c := by rw [str_size]; decide +kernel
  sP5a := by rw [str_size]; decide +kernel
  sP5b := by rw [str_size]; decide +kernel
  sP5c := by rw [str_size]; decide +kernel
  sP5d := by rw [str_size]; decide +kernel
  sP6a := by rw [str_size]; decide +kernel
  sP6b := by rw [str_size]; decide +kernel
  sB1 := by rw [str_size]; decide +kernel
  sB2 := by rw [str_size]; decide +kernel
  sTN := by rw [str_size]; decide +kernel
  sTT := by rw [str_size]; decide +kernel
  sTO := by rw [str_size]; decide +kernel
  sTE := by rw [str_size]; decide +kernel
  sW0 := by rw [str_size]; decide +kernel
  sW1 := by rw [str_size]; decide +kernel
  sI1 := by rw [str_size]; decide +kernel
  sI2 := by rw [str_size]; decide +kernel
  sI3 := by rw [str_size]; decide +kernel
  sI4 := by rw [str_size]; decide +kernel
  sI5 := by rw [str_size]; decide +kernel
  kB1 := fun w => bytes05_any 0 1 0 (by decide) w
  kB2 := fun w => bytes05_any 0 2 0 (by decide) w
  kTN := fun w => text05_any [110] (by decide) w
  kTT := fun w => text05_any [116] (by decide) w
  kTO := fun w => text05_any [111] (by decide) w
  kTE := fun w => text05_any [101] (by decide) w
  kW0 := fun w => word05_any 0 (by decide) (by decide) w
  kW1 := fun w => word05_any 1 (by decide) (by decide) w
  kI1 := fun w => (ints_k [2, 3, 4] w (by decide) (by simp [I64])).mono fun e w' ⟨he, hx⟩ => ⟨he, Ext.trans (extAl _ _) hx⟩
  kI2 := fun w => (ints_k [5, 6] w (by decide) (by simp [I64])).mono fun e w' ⟨he, hx⟩ => ⟨he, Ext.trans (extAl _ _) hx⟩
  kI3 := fun w => (ints_k [2, 3, 4, 5, 6, 7, 8] w (by decide) (by simp [I64])).mono fun e w' ⟨he, hx⟩ => ⟨he, Ext.trans (extAl _ _) hx⟩
  kI4 := fun w => (ints_k [2, 3] w (by decide) (by simp [I64])).mono fun e w' ⟨he, hx⟩ => ⟨he, Ext.trans (extAl _ _) hx⟩
  kI5 := fun w => (ints_k [4] w (by decide) (by simp [I64])).mono fun e w' ⟨he, hx⟩ => ⟨he, Ext.trans (extAl _ _) hx⟩
  k1 := fun w => aw_k 2 x1A _ rfl (by decide +kernel) (by simp [I64]) (okB_ok (by decide +kernel)) w
  k2 := fun w => aw_k 13 x2A _ rfl (by decide +kernel) (by simp [I64]) (okB_ok (by decide +kernel)) w
  k3 := fun w => aw_k 6 x3A _ rfl (by decide +kernel) (by simp [I64]) (okB_ok (by decide +kernel)) w
  k6 := fun w => aw_k 12 x6A _ rfl (by decide +kernel) (by simp [I64]) (okB_ok (by decide +kernel)) w
  k4 := fun w => at_k 5 x4R (.slice none 0 0) _ rfl (by decide +kernel) (by simp [I64]) (by decide +kernel) w RR.nil
  k5 := fun w => (at_k 14 x5R (.slice (some ⟨w.heap.size, 0, none⟩) 1 1) _ rfl (by decide +kernel) (by simp [I64]) (by decide +kernel) _ (en_row (L := [⟨[101], 2, 3⟩]) (n := 1) (heap_alloc_last w (.cells #[.string ⟨#[101]⟩, .int .i64 2, .int .i64 3] 66)) (by decide) (by decide))).mono fun e w' ⟨he, hx⟩ => ⟨he, Ext.trans (extAl _ _) hx⟩
theorem an_tl : (anTab.map anC).length = 21 := rfl
theorem an_18 : ∀ v ∈ anTab.map anC, v.length = 18 := fun v hv => by obtain ⟨r, _, rfl⟩ := List.mem_map.1 hv; rfl
theorem an_fl : (anTab.map anC).flatMap id = anTab.flatMap anC := by simp [List.flatMap_map]
theorem an_z : ((Try.prog.info? TA).bind (·.zero)).isSome = true := by kernel_rfl
theorem wp_anTab {o : Oper} {a : Act} {w : World} {K : Act → World → Prop} {Q : Exit → Act → World → Prop} (parts : Array (Nat × Operand)) (ho : o.op = .buildSlice 71 21 parts)
    (hp : (parts.map fun z => (z.1, a.eval z.2)).toList = (((anTab.map anC).map fun c => Value.agg c.toArray).zipIdx 0).map fun x => (x.2, x.1))
    (h : K (a.put o.dst (.slice (some ⟨w.heap.size, 0, none⟩) 21 21)) (w.alloc (.cells (anTab.flatMap anC).toArray TA))) : o.wp Try.prog a w K Q := by
  refine wp_bsN 71 TA 18 21 (anTab.map anC) parts ho an_tl Try.underlying71 info_an an_z (by decide) (by decide) (by decide) an_18 hp ?_
  rw [an_fl]
  exact h
theorem quiet_bld {P : Program} {o : Oper} {a : Act} {C : World → Prop} {K : Act → Prop} (ty : TypeId) (parts : Array (Nat × Operand)) (ho : o.op = .build ty parts) {v : Value} (hr : ∀ w, (Instr.build ty (parts.map fun z => (z.1, a.eval z.2))).run P w = .ok v w)
    (hk : K (a.put o.dst v)) : o.quiet P a C K :=
  ⟨v, fun w hw => by
    have h := hr w
    unfold Oper.quietAt execOp
    simp only [ho, Sem.run_bind]
    rw [h]
    simp only [Result.andThen_ok, Sem.run_pure]
    exact ⟨rfl, rfl⟩, hk⟩
theorem mk65E : ∃ EE : List Value, Hid ((List.replicate 65 en0).flatMap enC = EE) ∧ ∀ w : World, (Instr.makeSlice 39 (.int .i64 65) (.int .i64 65)).run Try.prog w = .ok (.slice (some ⟨w.heap.size, 0, none⟩) 65 65) (w.alloc (.cells EE.toArray 66)) := ⟨_, Lib.hid rfl, mk65⟩
end

section
set_option linter.unusedVariables false
set_option maxRecDepth 100000
open Go.RowKit

theorem read_k (p : Int) (s : List UInt8) (S : ByteArray) (E : Int) (hS : S = str s) (hE : (aR p s).2 = E) (hp : I64 p) (hs : s.length ≤ 20000) :
    ∃ (V : Value) (cs : Array Value), (∀ w : World, Calls Try.prog 28 #[.int .i64 p, .string S] w fun e w' => e = .returned (.tuple #[V, .int .i64 E]) ∧ Ext w w') ∧
      ∀ u : World, (Instr.storeAt 35 (.pointer (some ⟨u.heap.size, 0, none⟩)) V).run Try.prog (u.alloc (.cells #[.int .i64 0, .int .i64 0, .int .i64 0, .int .i64 0, .int .i64 0, .int .i64 0, .string ⟨#[]⟩, .string ⟨#[]⟩, .string ⟨#[]⟩, .int .i64 0, .int .i64 0, .int .i64 0, .int .i64 0, .int .i64 0, .int .i64 0, .int .u64 0] 35)) = .ok () (u.alloc (.cells cs 35)) :=
  ⟨_, _, fun w => aRead_e p s S (aR p s).1 E hS (by rw [← hE]) hp hs w, fun u => new_ag05 u (aR p s).1⟩
theorem hear_k (p : Int) (s : List UInt8) (S : ByteArray) (E : Int) (hS : S = str s) (hE : (aH p s).2 = E) (hp : I64 p) (hs : s.length ≤ 20000) (w : World) :
    Calls Try.prog 35 #[.int .i64 p, .string S] w fun e w' => ∃ (V : Value) (cs : Array Value), e = .returned (.tuple #[V, .int .i64 E]) ∧
      (∀ u : World, (Instr.storeAt 41 (.pointer (some ⟨u.heap.size, 0, none⟩)) V).run Try.prog (u.alloc (.cells #[.int .i64 0, .int .i64 0, .int .i64 0, .int .i64 0, .int .u8 0, .int .i64 0, .int .i64 0, .int .i64 0, .int .i64 0, .int .i64 0, .int .i64 0, .int .i64 0, .string ⟨#[]⟩, .int .i64 0, .int .i64 0, .int .u64 0, .bool false, .slice none 0 0, .int .u64 0] 41)) = .ok () (u.alloc (.cells cs 41))) ∧ Ext w w' := by
  subst hS hE
  refine (aHear_any p s w hp hs).mono ?_
  rintro e w' ⟨rv, rfl, o, k⟩
  obtain ⟨A, c, rfl⟩ := o.form
  exact ⟨_, _, rfl, fun u => new_rsV u (aH p s).1 A _ c, k⟩
theorem word_k (n : Int) (S : ByteArray) (hS : S = str (beN n 4)) (h0 : 0 ≤ n) (h1 : n ≤ 4294967295) (w : World) :
    Calls Try.prog 44 #[.slice none 0 0, .int .u32 n] w fun e w' => ∃ A k c, e = .returned (.slice A k c) ∧ (∀ u, Ext w' u → (convert 47 9 (.slice A k c)).run Try.prog u = .ok (.string S) u) ∧ Ext w w' := by
  subst hS
  refine (Word_any (.slice none 0 0) [] n w RS.nil h0 h1 (by decide)).mono ?_
  rintro e w' ⟨v, rfl, ho, hx⟩
  have h := ho.rs
  obtain ⟨A, c, rfl⟩ := h.form
  refine ⟨A, _, c, rfl, fun u hu => ?_, hx⟩
  have hcv := RS.conv (h.ext hu) Try.underlying47 Try.underlying5 Try.underlying9
  rw [List.nil_append] at hcv
  exact hcv
def wideL : List UInt8 := beN 0 4 ++ beN 258 4 ++ zr 56
def wide7 : List UInt8 := [0, 0, 0, 0] ++ beN 65 4
def wide1 : List UInt8 := hbytes 0 1 0 ++ [0]
theorem b1 : (aR 1 wide1).2 = 4 := by decide +kernel
theorem b2 : (aR 1 (zr 24)).2 = 4 := by decide +kernel
theorem b3 : (aR 19 []).2 = 62 := by decide +kernel
theorem b4 : (aH (-1) []).2 = 62 := by decide +kernel
theorem b5 : (aH 0 [0, 0, 0, 0, 0, 0, 0, 0]).2 = 4 := by decide +kernel
theorem b6 : (aH 16 []).2 = 4 := by decide +kernel
theorem b7 : (aH 14 wide7).2 = 4 := by decide +kernel
theorem b8 : (aH 1 wideL).2 = 4 := by decide +kernel
structure Bad (S5 S6 T U Y0 Y Z0 Z1 ZA Z : ByteArray) (V1 V2 V3 : Value) (c1 c2 c3 : Array Value) : Prop where
  kT : ∀ w, Calls Try.prog 40 #[.agg #[.int .i64 0, .int .i64 1, .int .i64 0]] w fun e w' => e = .returned (.string T) ∧ Ext w w'
  eU : T ++ ⟨#[0]⟩ = U
  sT : T.size = 24
  e7 : ⟨#[0, 0, 0, 0]⟩ ++ Y0 = Y
  sY0 : Y0.size = 4
  e8a : Z0 ++ Z1 = ZA
  e8 : ZA ++ S6 = Z
  sZ0 : Z0.size = 4
  sZ1 : Z1.size = 4
  sZA : ZA.size = 8
  sS6 : S6.size = 56
  r1 : ∀ w : World, Calls Try.prog 28 #[.int .i64 1, .string U] w fun e w' => e = .returned (.tuple #[V1, .int .i64 4]) ∧ Ext w w'
  t1 : ∀ u : World, (Instr.storeAt 35 (.pointer (some ⟨u.heap.size, 0, none⟩)) V1).run Try.prog (u.alloc (.cells #[.int .i64 0, .int .i64 0, .int .i64 0, .int .i64 0, .int .i64 0, .int .i64 0, .string ⟨#[]⟩, .string ⟨#[]⟩, .string ⟨#[]⟩, .int .i64 0, .int .i64 0, .int .i64 0, .int .i64 0, .int .i64 0, .int .i64 0, .int .u64 0] 35)) = .ok () (u.alloc (.cells c1 35))
  r2 : ∀ w : World, Calls Try.prog 28 #[.int .i64 1, .string S5] w fun e w' => e = .returned (.tuple #[V2, .int .i64 4]) ∧ Ext w w'
  t2 : ∀ u : World, (Instr.storeAt 35 (.pointer (some ⟨u.heap.size, 0, none⟩)) V2).run Try.prog (u.alloc (.cells #[.int .i64 0, .int .i64 0, .int .i64 0, .int .i64 0, .int .i64 0, .int .i64 0, .string ⟨#[]⟩, .string ⟨#[]⟩, .string ⟨#[]⟩, .int .i64 0, .int .i64 0, .int .i64 0, .int .i64 0, .int .i64 0, .int .i64 0, .int .u64 0] 35)) = .ok () (u.alloc (.cells c2 35))
  r3 : ∀ w : World, Calls Try.prog 28 #[.int .i64 19, .string ⟨#[]⟩] w fun e w' => e = .returned (.tuple #[V3, .int .i64 62]) ∧ Ext w w'
  t3 : ∀ u : World, (Instr.storeAt 35 (.pointer (some ⟨u.heap.size, 0, none⟩)) V3).run Try.prog (u.alloc (.cells #[.int .i64 0, .int .i64 0, .int .i64 0, .int .i64 0, .int .i64 0, .int .i64 0, .string ⟨#[]⟩, .string ⟨#[]⟩, .string ⟨#[]⟩, .int .i64 0, .int .i64 0, .int .i64 0, .int .i64 0, .int .i64 0, .int .i64 0, .int .u64 0] 35)) = .ok () (u.alloc (.cells c3 35))
  h4 : ∀ w : World, Calls Try.prog 35 #[.int .i64 (-1), .string ⟨#[]⟩] w fun e w' => ∃ (V : Value) (cs : Array Value), e = .returned (.tuple #[V, .int .i64 62]) ∧ (∀ u : World, (Instr.storeAt 41 (.pointer (some ⟨u.heap.size, 0, none⟩)) V).run Try.prog (u.alloc (.cells #[.int .i64 0, .int .i64 0, .int .i64 0, .int .i64 0, .int .u8 0, .int .i64 0, .int .i64 0, .int .i64 0, .int .i64 0, .int .i64 0, .int .i64 0, .int .i64 0, .string ⟨#[]⟩, .int .i64 0, .int .i64 0, .int .u64 0, .bool false, .slice none 0 0, .int .u64 0] 41)) = .ok () (u.alloc (.cells cs 41))) ∧ Ext w w'
  h5 : ∀ w : World, Calls Try.prog 35 #[.int .i64 0, .string ⟨#[0, 0, 0, 0, 0, 0, 0, 0]⟩] w fun e w' => ∃ (V : Value) (cs : Array Value), e = .returned (.tuple #[V, .int .i64 4]) ∧ (∀ u : World, (Instr.storeAt 41 (.pointer (some ⟨u.heap.size, 0, none⟩)) V).run Try.prog (u.alloc (.cells #[.int .i64 0, .int .i64 0, .int .i64 0, .int .i64 0, .int .u8 0, .int .i64 0, .int .i64 0, .int .i64 0, .int .i64 0, .int .i64 0, .int .i64 0, .int .i64 0, .string ⟨#[]⟩, .int .i64 0, .int .i64 0, .int .u64 0, .bool false, .slice none 0 0, .int .u64 0] 41)) = .ok () (u.alloc (.cells cs 41))) ∧ Ext w w'
  h6 : ∀ w : World, Calls Try.prog 35 #[.int .i64 16, .string ⟨#[]⟩] w fun e w' => ∃ (V : Value) (cs : Array Value), e = .returned (.tuple #[V, .int .i64 4]) ∧ (∀ u : World, (Instr.storeAt 41 (.pointer (some ⟨u.heap.size, 0, none⟩)) V).run Try.prog (u.alloc (.cells #[.int .i64 0, .int .i64 0, .int .i64 0, .int .i64 0, .int .u8 0, .int .i64 0, .int .i64 0, .int .i64 0, .int .i64 0, .int .i64 0, .int .i64 0, .int .i64 0, .string ⟨#[]⟩, .int .i64 0, .int .i64 0, .int .u64 0, .bool false, .slice none 0 0, .int .u64 0] 41)) = .ok () (u.alloc (.cells cs 41))) ∧ Ext w w'
  h7 : ∀ w : World, Calls Try.prog 35 #[.int .i64 14, .string Y] w fun e w' => ∃ (V : Value) (cs : Array Value), e = .returned (.tuple #[V, .int .i64 4]) ∧ (∀ u : World, (Instr.storeAt 41 (.pointer (some ⟨u.heap.size, 0, none⟩)) V).run Try.prog (u.alloc (.cells #[.int .i64 0, .int .i64 0, .int .i64 0, .int .i64 0, .int .u8 0, .int .i64 0, .int .i64 0, .int .i64 0, .int .i64 0, .int .i64 0, .int .i64 0, .int .i64 0, .string ⟨#[]⟩, .int .i64 0, .int .i64 0, .int .u64 0, .bool false, .slice none 0 0, .int .u64 0] 41)) = .ok () (u.alloc (.cells cs 41))) ∧ Ext w w'
  h8 : ∀ w : World, Calls Try.prog 35 #[.int .i64 1, .string Z] w fun e w' => ∃ (V : Value) (cs : Array Value), e = .returned (.tuple #[V, .int .i64 4]) ∧ (∀ u : World, (Instr.storeAt 41 (.pointer (some ⟨u.heap.size, 0, none⟩)) V).run Try.prog (u.alloc (.cells #[.int .i64 0, .int .i64 0, .int .i64 0, .int .i64 0, .int .u8 0, .int .i64 0, .int .i64 0, .int .i64 0, .int .i64 0, .int .i64 0, .int .i64 0, .int .i64 0, .string ⟨#[]⟩, .int .i64 0, .int .i64 0, .int .u64 0, .bool false, .slice none 0 0, .int .u64 0] 41)) = .ok () (u.alloc (.cells cs 41))) ∧ Ext w w'
  w7 : ∀ w : World, Calls Try.prog 44 #[.slice none 0 0, .int .u32 65] w fun e w' => ∃ A k c, e = .returned (.slice A k c) ∧ (∀ u, Ext w' u → (convert 47 9 (.slice A k c)).run Try.prog u = .ok (.string Y0) u) ∧ Ext w w'
  w8 : ∀ w : World, Calls Try.prog 44 #[.slice none 0 0, .int .u32 0] w fun e w' => ∃ A k c, e = .returned (.slice A k c) ∧ (∀ u, Ext w' u → (convert 47 9 (.slice A k c)).run Try.prog u = .ok (.string Z0) u) ∧ Ext w w'
  w9 : ∀ w : World, Calls Try.prog 44 #[.slice none 0 0, .int .u32 258] w fun e w' => ∃ A k c, e = .returned (.slice A k c) ∧ (∀ u, Ext w' u → (convert 47 9 (.slice A k c)).run Try.prog u = .ok (.string Z1) u) ∧ Ext w w'
theorem bad {S5 S6 : ByteArray} (h5 : S5 = str (zr 24)) (h6 : S6 = str (zr 56)) : ∃ T U Y0 Y Z0 Z1 ZA Z V1 V2 V3 c1 c2 c3, Bad S5 S6 T U Y0 Y Z0 Z1 ZA Z V1 V2 V3 c1 c2 c3 := by
  obtain ⟨V1, c1, r1, t1⟩ := read_k 1 wide1 (str wide1) 4 rfl b1 (by simp [I64]) (by decide +kernel)
  obtain ⟨V2, c2, r2, t2⟩ := read_k 1 (zr 24) S5 4 h5 b2 (by simp [I64]) (by decide +kernel)
  obtain ⟨V3, c3, r3, t3⟩ := read_k 19 [] ⟨#[]⟩ 62 rfl b3 (by simp [I64]) (by decide +kernel)
  exact ⟨str (hbytes 0 1 0), str wide1, str (beN 65 4), str wide7, str (beN 0 4), str (beN 258 4), str (beN 0 4 ++ beN 258 4), str wideL, V1, V2, V3, c1, c2, c3,
    { kT := fun w => bytes05_any 0 1 0 (by decide) w
      eU := str_append _ [0]
      sT := by rw [str_size]; decide +kernel
      e7 := str_append [0, 0, 0, 0] _
      sY0 := by rw [str_size]; decide +kernel
      e8a := str_append _ _
      e8 := by rw [h6]; exact str_append _ _
      sZ0 := by rw [str_size]; decide +kernel
      sZ1 := by rw [str_size]; decide +kernel
      sZA := by rw [str_size]; decide +kernel
      sS6 := by rw [h6, str_size]; decide +kernel
      r1 := r1
      t1 := t1
      r2 := r2
      t2 := t2
      r3 := r3
      t3 := t3
      h4 := hear_k (-1) [] ⟨#[]⟩ 62 rfl b4 (by simp [I64]) (by decide +kernel)
      h5 := hear_k 0 [0, 0, 0, 0, 0, 0, 0, 0] ⟨#[0, 0, 0, 0, 0, 0, 0, 0]⟩ 4 rfl b5 (by simp [I64]) (by decide +kernel)
      h6 := hear_k 16 [] ⟨#[]⟩ 4 rfl b6 (by simp [I64]) (by decide +kernel)
      h7 := hear_k 14 wide7 (str wide7) 4 rfl b7 (by simp [I64]) (by decide +kernel)
      h8 := hear_k 1 wideL (str wideL) 4 rfl b8 (by simp [I64]) (by decide +kernel)
      w7 := word_k 65 _ rfl (by decide) (by decide)
      w8 := word_k 0 _ rfl (by decide) (by decide)
      w9 := word_k 258 _ rfl (by decide) (by decide) }⟩
theorem chg_k (p : Int) (b : Bool) (h : chg p ag0 = b) (w : World) : Calls Try.prog 30 #[.int .i64 p, .agg #[.int .i64 0, .int .i64 0, .int .i64 0, .int .i64 0, .int .i64 0, .int .i64 0, .string ⟨#[]⟩, .string ⟨#[]⟩, .string ⟨#[]⟩, .int .i64 0, .int .i64 0, .int .i64 0, .int .i64 0, .int .i64 0, .int .i64 0, .int .u64 0]] w fun e w' => e = .returned (.bool b) ∧ Ext w w' := by
  subst h
  exact aChanges_any p ag0 w
theorem chg_cases (p : Int) : (p = 2 ∧ chg p ag0 = true) ∨ (p ≠ 2 ∧ 7 ≤ p ∧ p ≤ 13 ∧ chg p ag0 = true) ∨ (p = 17 ∧ chg p ag0 = true) ∨ (p = 18 ∧ chg p ag0 = true) ∨
    (p ≠ 2 ∧ 7 ≤ p ∧ ¬ p ≤ 13 ∧ p ≠ 17 ∧ p ≠ 18 ∧ chg p ag0 = false) ∨ (p ≠ 2 ∧ ¬ 7 ≤ p ∧ p ≠ 17 ∧ p ≠ 18 ∧ chg p ag0 = false) := by
  by_cases h6 : p = 6
  · subst h6
    exact .inr (.inr (.inr (.inr (.inr ⟨by decide, by decide, by decide, by decide, rfl⟩))))
  · have e : chg p ag0 = decide (p = 2 ∨ (7 ≤ p ∧ p ≤ 13) ∨ p = 17 ∨ p = 18) := by unfold chg; rw [if_neg h6]
    rw [e]
    simp only [decide_eq_true_eq, decide_eq_false_iff_not]
    omega
end

section
set_option linter.unusedVariables false
set_option maxRecDepth 100000
open Go.RowKit

/-! The tables' literal rows (printed by gen_anF.py). -/
theorem ext_in {w w' : World} {ψ : World → Prop} (h : ∃ e : ExtP w.heap.size w ψ, w' = e.val) : Ext w w' := by obtain ⟨e, rfl⟩ := h; exact e.ok
theorem an_hp {S1 S2 S3 S4 : ByteArray} (h1 : S1 = str (zr 255)) (h2 : S2 = str (zr 256)) (h3 : S3 = str (zr 2048)) (h4 : S4 = str (zr 2049)) :
    (((anTab.map anC).map fun c => Value.agg c.toArray).zipIdx 0).map (fun x => (x.2, x.1)) = [(0, .agg #[.int .i64 (-1), .int .i64 0, .int .i64 0, .int .i64 0, .int .i64 0, .int .i64 0, .int .i64 0, .string ⟨#[]⟩, .string ⟨#[]⟩, .string ⟨#[]⟩, .int .i64 0, .int .i64 0, .int .i64 0, .int .i64 0, .int .i64 0, .int .i64 0, .int .u64 0, .int .i64 62]),
  (1, .agg #[.int .i64 19, .int .i64 0, .int .i64 0, .int .i64 0, .int .i64 0, .int .i64 0, .int .i64 0, .string ⟨#[]⟩, .string ⟨#[]⟩, .string ⟨#[]⟩, .int .i64 0, .int .i64 0, .int .i64 0, .int .i64 0, .int .i64 0, .int .i64 0, .int .u64 0, .int .i64 62]),
  (2, .agg #[.int .i64 0, .int .i64 0, .int .i64 0, .int .i64 0, .int .i64 0, .int .i64 0, .int .i64 0, .string ⟨#[]⟩, .string ⟨#[]⟩, .string ⟨#[]⟩, .int .i64 0, .int .i64 0, .int .i64 0, .int .i64 0, .int .i64 0, .int .i64 0, .int .u64 0, .int .i64 0]),
  (3, .agg #[.int .i64 0, .int .i64 0, .int .i64 0, .int .i64 0, .int .i64 0, .int .i64 0, .int .i64 0, .string ⟨#[]⟩, .string ⟨#[]⟩, .string ⟨#[]⟩, .int .i64 0, .int .i64 1, .int .i64 0, .int .i64 0, .int .i64 0, .int .i64 0, .int .u64 0, .int .i64 4]),
  (4, .agg #[.int .i64 1, .int .i64 0, .int .i64 0, .int .i64 0, .int .i64 0, .int .i64 0, .int .i64 0, .string ⟨#[]⟩, .string ⟨#[]⟩, .string ⟨#[]⟩, .int .i64 0, .int .i64 0, .int .i64 0, .int .i64 0, .int .i64 0, .int .i64 0, .int .u64 0, .int .i64 4]),
  (5, .agg #[.int .i64 3, .int .i64 0, .int .i64 1, .int .i64 0, .int .i64 0, .int .i64 0, .int .i64 0, .string S1, .string ⟨#[]⟩, .string ⟨#[]⟩, .int .i64 0, .int .i64 0, .int .i64 0, .int .i64 0, .int .i64 0, .int .i64 0, .int .u64 0, .int .i64 0]),
  (6, .agg #[.int .i64 3, .int .i64 0, .int .i64 1, .int .i64 0, .int .i64 0, .int .i64 0, .int .i64 0, .string S2, .string ⟨#[]⟩, .string ⟨#[]⟩, .int .i64 0, .int .i64 0, .int .i64 0, .int .i64 0, .int .i64 0, .int .i64 0, .int .u64 0, .int .i64 4]),
  (7, .agg #[.int .i64 12, .int .i64 0, .int .i64 1, .int .i64 0, .int .i64 0, .int .i64 2, .int .i64 0, .string ⟨#[97]⟩, .string S2, .string ⟨#[]⟩, .int .i64 0, .int .i64 0, .int .i64 0, .int .i64 0, .int .i64 0, .int .i64 0, .int .u64 0, .int .i64 4]),
  (8, .agg #[.int .i64 12, .int .i64 0, .int .i64 1, .int .i64 0, .int .i64 0, .int .i64 0, .int .i64 0, .string ⟨#[97]⟩, .string ⟨#[98]⟩, .string ⟨#[]⟩, .int .i64 0, .int .i64 0, .int .i64 0, .int .i64 0, .int .i64 0, .int .i64 0, .int .u64 0, .int .i64 4]),
  (9, .agg #[.int .i64 6, .int .i64 0, .int .i64 1, .int .i64 0, .int .i64 0, .int .i64 0, .int .i64 0, .string ⟨#[]⟩, .string ⟨#[]⟩, .string S3, .int .i64 (-1), .int .i64 0, .int .i64 0, .int .i64 0, .int .i64 9, .int .i64 0, .int .u64 0, .int .i64 0]),
  (10, .agg #[.int .i64 6, .int .i64 0, .int .i64 1, .int .i64 0, .int .i64 0, .int .i64 0, .int .i64 0, .string ⟨#[]⟩, .string ⟨#[]⟩, .string S4, .int .i64 0, .int .i64 0, .int .i64 0, .int .i64 0, .int .i64 0, .int .i64 0, .int .u64 0, .int .i64 4]),
  (11, .agg #[.int .i64 2, .int .i64 0, .int .i64 1, .int .i64 0, .int .i64 0, .int .i64 0, .int .i64 0, .string ⟨#[]⟩, .string ⟨#[]⟩, .string ⟨#[]⟩, .int .i64 0, .int .i64 0, .int .i64 (-1), .int .i64 (-1), .int .i64 0, .int .i64 (-1), .int .u64 0, .int .i64 0]),
  (12, .agg #[.int .i64 2, .int .i64 0, .int .i64 1, .int .i64 0, .int .i64 0, .int .i64 0, .int .i64 0, .string ⟨#[]⟩, .string ⟨#[]⟩, .string ⟨#[]⟩, .int .i64 0, .int .i64 0, .int .i64 0, .int .i64 0, .int .i64 0, .int .i64 0, .int .u64 1, .int .i64 4]),
  (13, .agg #[.int .i64 14, .int .i64 0, .int .i64 1, .int .i64 0, .int .i64 0, .int .i64 0, .int .i64 0, .string ⟨#[]⟩, .string ⟨#[]⟩, .string ⟨#[]⟩, .int .i64 0, .int .i64 0, .int .i64 0, .int .i64 0, .int .i64 0, .int .i64 0, .int .u64 18446744073709551615, .int .i64 0]),
  (14, .agg #[.int .i64 7, .int .i64 0, .int .i64 1, .int .i64 0, .int .i64 0, .int .i64 0, .int .i64 0, .string ⟨#[97]⟩, .string ⟨#[]⟩, .string ⟨#[120]⟩, .int .i64 0, .int .i64 0, .int .i64 0, .int .i64 0, .int .i64 0, .int .i64 0, .int .u64 0, .int .i64 4]),
  (15, .agg #[.int .i64 15, .int .i64 0, .int .i64 1, .int .i64 0, .int .i64 0, .int .i64 1, .int .i64 0, .string ⟨#[]⟩, .string ⟨#[]⟩, .string ⟨#[]⟩, .int .i64 0, .int .i64 0, .int .i64 0, .int .i64 0, .int .i64 0, .int .i64 0, .int .u64 0, .int .i64 4]),
  (16, .agg #[.int .i64 16, .int .i64 0, .int .i64 1, .int .i64 0, .int .i64 0, .int .i64 0, .int .i64 0, .string ⟨#[]⟩, .string ⟨#[]⟩, .string ⟨#[]⟩, .int .i64 0, .int .i64 0, .int .i64 0, .int .i64 0, .int .i64 1, .int .i64 0, .int .u64 0, .int .i64 4]),
  (17, .agg #[.int .i64 10, .int .i64 0, .int .i64 1, .int .i64 0, .int .i64 0, .int .i64 0, .int .i64 0, .string ⟨#[]⟩, .string ⟨#[]⟩, .string ⟨#[]⟩, .int .i64 0, .int .i64 0, .int .i64 1, .int .i64 0, .int .i64 0, .int .i64 0, .int .u64 0, .int .i64 4]),
  (18, .agg #[.int .i64 11, .int .i64 0, .int .i64 1, .int .i64 0, .int .i64 0, .int .i64 0, .int .i64 0, .string ⟨#[]⟩, .string ⟨#[]⟩, .string ⟨#[]⟩, .int .i64 0, .int .i64 0, .int .i64 0, .int .i64 1, .int .i64 0, .int .i64 0, .int .u64 0, .int .i64 4]),
  (19, .agg #[.int .i64 17, .int .i64 0, .int .i64 1, .int .i64 0, .int .i64 0, .int .i64 0, .int .i64 0, .string ⟨#[]⟩, .string ⟨#[]⟩, .string ⟨#[]⟩, .int .i64 0, .int .i64 0, .int .i64 0, .int .i64 0, .int .i64 0, .int .i64 1, .int .u64 0, .int .i64 4]),
  (20, .agg #[.int .i64 18, .int .i64 0, .int .i64 1, .int .i64 0, .int .i64 0, .int .i64 0, .int .i64 0, .string ⟨#[]⟩, .string ⟨#[120]⟩, .string ⟨#[]⟩, .int .i64 0, .int .i64 0, .int .i64 0, .int .i64 0, .int .i64 0, .int .i64 0, .int .u64 0, .int .i64 4])] := by
  subst h1 h2 h3 h4
  kernel_rfl
theorem rn_hp {S2 S3 S4 : ByteArray} (ge g1 : Nat) (h3 : S3 = str (zr 2048)) (h4 : S4 = str (zr 2049)) :
    ((((rnRows ge g1).map rnC).map fun c => Value.agg c.toArray).zipIdx 0).map (fun x => (x.2, x.1)) = [(0, .agg #[.int .i64 19, .int .i64 0, .int .i64 0, .int .i64 0, .int .i64 0, .int .u8 0, .int .i64 0, .int .i64 0, .int .i64 0, .int .i64 0, .int .i64 0, .int .i64 0, .int .i64 0, .string ⟨#[]⟩, .int .i64 0, .int .i64 0, .int .u64 0, .bool false, .slice none 0 0, .int .u64 0, .int .i64 62]),
  (1, .agg #[.int .i64 0, .int .i64 0, .int .i64 0, .int .i64 0, .int .i64 0, .int .u8 0, .int .i64 0, .int .i64 0, .int .i64 0, .int .i64 0, .int .i64 0, .int .i64 0, .int .i64 0, .string ⟨#[]⟩, .int .i64 0, .int .i64 0, .int .u64 0, .bool false, .slice none 0 0, .int .u64 0, .int .i64 0]),
  (2, .agg #[.int .i64 0, .int .i64 63, .int .i64 0, .int .i64 0, .int .i64 0, .int .u8 0, .int .i64 0, .int .i64 0, .int .i64 0, .int .i64 0, .int .i64 0, .int .i64 0, .int .i64 0, .string ⟨#[]⟩, .int .i64 0, .int .i64 0, .int .u64 0, .bool false, .slice none 0 0, .int .u64 0, .int .i64 0]),
  (3, .agg #[.int .i64 0, .int .i64 64, .int .i64 0, .int .i64 0, .int .i64 0, .int .u8 0, .int .i64 0, .int .i64 0, .int .i64 0, .int .i64 0, .int .i64 0, .int .i64 0, .int .i64 0, .string ⟨#[]⟩, .int .i64 0, .int .i64 0, .int .u64 0, .bool false, .slice none 0 0, .int .u64 0, .int .i64 4]),
  (4, .agg #[.int .i64 0, .int .i64 (-1), .int .i64 0, .int .i64 0, .int .i64 0, .int .u8 0, .int .i64 0, .int .i64 0, .int .i64 0, .int .i64 0, .int .i64 0, .int .i64 0, .int .i64 0, .string ⟨#[]⟩, .int .i64 0, .int .i64 0, .int .u64 0, .bool false, .slice none 0 0, .int .u64 0, .int .i64 4]),
  (5, .agg #[.int .i64 1, .int .i64 0, .int .i64 0, .int .i64 0, .int .i64 0, .int .u8 2, .int .i64 (-1), .int .i64 0, .int .i64 0, .int .i64 0, .int .i64 0, .int .i64 0, .int .i64 1099511627776, .string ⟨#[]⟩, .int .i64 0, .int .i64 0, .int .u64 0, .bool false, .slice none 0 0, .int .u64 0, .int .i64 0]),
  (6, .agg #[.int .i64 1, .int .i64 1, .int .i64 0, .int .i64 0, .int .i64 0, .int .u8 2, .int .i64 (-1), .int .i64 0, .int .i64 0, .int .i64 0, .int .i64 0, .int .i64 0, .int .i64 1099511627776, .string ⟨#[]⟩, .int .i64 0, .int .i64 0, .int .u64 0, .bool false, .slice none 0 0, .int .u64 0, .int .i64 4]),
  (7, .agg #[.int .i64 1, .int .i64 0, .int .i64 0, .int .i64 0, .int .i64 0, .int .u8 4, .int .i64 0, .int .i64 0, .int .i64 0, .int .i64 0, .int .i64 0, .int .i64 0, .int .i64 0, .string ⟨#[]⟩, .int .i64 0, .int .i64 0, .int .u64 0, .bool false, .slice none 0 0, .int .u64 0, .int .i64 4]),
  (8, .agg #[.int .i64 1, .int .i64 0, .int .i64 0, .int .i64 0, .int .i64 0, .int .u8 0, .int .i64 0, .int .i64 0, .int .i64 0, .int .i64 0, .int .i64 0, .int .i64 0, .int .i64 0, .string ⟨#[]⟩, .int .i64 0, .int .i64 0, .int .u64 0, .bool false, .slice none 0 0, .int .u64 0, .int .i64 4]),
  (9, .agg #[.int .i64 3, .int .i64 0, .int .i64 0, .int .i64 0, .int .i64 0, .int .u8 2, .int .i64 (-1), .int .i64 0, .int .i64 0, .int .i64 0, .int .i64 0, .int .i64 0, .int .i64 1099511627776, .string ⟨#[]⟩, .int .i64 0, .int .i64 0, .int .u64 0, .bool false, .slice none 0 0, .int .u64 0, .int .i64 4]),
  (10, .agg #[.int .i64 3, .int .i64 0, .int .i64 0, .int .i64 3, .int .i64 0, .int .u8 2, .int .i64 (-1), .int .i64 0, .int .i64 0, .int .i64 0, .int .i64 0, .int .i64 0, .int .i64 1099511627776, .string ⟨#[]⟩, .int .i64 0, .int .i64 0, .int .u64 0, .bool false, .slice none 0 0, .int .u64 0, .int .i64 0]),
  (11, .agg #[.int .i64 5, .int .i64 0, .int .i64 0, .int .i64 0, .int .i64 0, .int .u8 2, .int .i64 (-1), .int .i64 0, .int .i64 0, .int .i64 0, .int .i64 0, .int .i64 0, .int .i64 1099511627776, .string S3, .int .i64 0, .int .i64 0, .int .u64 0, .bool true, .slice none 0 0, .int .u64 0, .int .i64 0]),
  (12, .agg #[.int .i64 5, .int .i64 0, .int .i64 0, .int .i64 0, .int .i64 0, .int .u8 2, .int .i64 (-1), .int .i64 0, .int .i64 0, .int .i64 0, .int .i64 0, .int .i64 0, .int .i64 1099511627776, .string S4, .int .i64 0, .int .i64 0, .int .u64 0, .bool false, .slice none 0 0, .int .u64 0, .int .i64 4]),
  (13, .agg #[.int .i64 14, .int .i64 0, .int .i64 0, .int .i64 0, .int .i64 0, .int .u8 0, .int .i64 0, .int .i64 0, .int .i64 0, .int .i64 0, .int .i64 0, .int .i64 0, .int .i64 0, .string ⟨#[]⟩, .int .i64 0, .int .i64 0, .int .u64 0, .bool false, .slice (some ⟨ge, 0, none⟩) 64 65, .int .u64 5, .int .i64 0]),
  (14, .agg #[.int .i64 14, .int .i64 0, .int .i64 0, .int .i64 0, .int .i64 0, .int .u8 0, .int .i64 0, .int .i64 0, .int .i64 0, .int .i64 0, .int .i64 0, .int .i64 0, .int .i64 0, .string ⟨#[]⟩, .int .i64 0, .int .i64 0, .int .u64 0, .bool false, .slice (some ⟨ge, 0, none⟩) 65 65, .int .u64 0, .int .i64 4]),
  (15, .agg #[.int .i64 14, .int .i64 0, .int .i64 0, .int .i64 0, .int .i64 0, .int .u8 0, .int .i64 0, .int .i64 0, .int .i64 0, .int .i64 0, .int .i64 0, .int .i64 0, .int .i64 0, .string ⟨#[]⟩, .int .i64 0, .int .i64 0, .int .u64 0, .bool false, .slice (some ⟨g1, 0, none⟩) 1 1, .int .u64 0, .int .i64 4]),
  (16, .agg #[.int .i64 15, .int .i64 0, .int .i64 0, .int .i64 0, .int .i64 0, .int .u8 0, .int .i64 0, .int .i64 0, .int .i64 0, .int .i64 0, .int .i64 0, .int .i64 0, .int .i64 0, .string ⟨#[]⟩, .int .i64 1, .int .i64 2, .int .u64 3, .bool false, .slice none 0 0, .int .u64 0, .int .i64 0]),
  (17, .agg #[.int .i64 16, .int .i64 0, .int .i64 0, .int .i64 0, .int .i64 0, .int .u8 0, .int .i64 0, .int .i64 0, .int .i64 0, .int .i64 0, .int .i64 0, .int .i64 0, .int .i64 0, .string ⟨#[]⟩, .int .i64 1, .int .i64 0, .int .u64 0, .bool false, .slice none 0 0, .int .u64 0, .int .i64 4]),
  (18, .agg #[.int .i64 17, .int .i64 0, .int .i64 0, .int .i64 1, .int .i64 0, .int .u8 0, .int .i64 0, .int .i64 0, .int .i64 0, .int .i64 0, .int .i64 0, .int .i64 0, .int .i64 0, .string ⟨#[]⟩, .int .i64 0, .int .i64 0, .int .u64 0, .bool false, .slice none 0 0, .int .u64 0, .int .i64 0]),
  (19, .agg #[.int .i64 18, .int .i64 0, .int .i64 0, .int .i64 1, .int .i64 0, .int .u8 0, .int .i64 0, .int .i64 0, .int .i64 0, .int .i64 0, .int .i64 0, .int .i64 0, .int .i64 0, .string ⟨#[]⟩, .int .i64 0, .int .i64 0, .int .u64 0, .bool false, .slice none 0 0, .int .u64 0, .int .i64 4]),
  (20, .agg #[.int .i64 10, .int .i64 0, .int .i64 0, .int .i64 0, .int .i64 0, .int .u8 0, .int .i64 0, .int .i64 0, .int .i64 0, .int .i64 0, .int .i64 0, .int .i64 0, .int .i64 0, .string ⟨#[]⟩, .int .i64 0, .int .i64 0, .int .u64 0, .bool true, .slice none 0 0, .int .u64 0, .int .i64 4]),
  (21, .agg #[.int .i64 12, .int .i64 0, .int .i64 0, .int .i64 0, .int .i64 0, .int .u8 0, .int .i64 0, .int .i64 0, .int .i64 0, .int .i64 0, .int .i64 0, .int .i64 0, .int .i64 0, .string ⟨#[]⟩, .int .i64 0, .int .i64 1, .int .u64 0, .bool false, .slice none 0 0, .int .u64 0, .int .i64 4]),
  (22, .agg #[.int .i64 11, .int .i64 0, .int .i64 0, .int .i64 0, .int .i64 0, .int .u8 0, .int .i64 0, .int .i64 0, .int .i64 0, .int .i64 0, .int .i64 0, .int .i64 0, .int .i64 0, .string ⟨#[]⟩, .int .i64 0, .int .i64 0, .int .u64 1, .bool false, .slice none 0 0, .int .u64 0, .int .i64 4]),
  (23, .agg #[.int .i64 4, .int .i64 0, .int .i64 0, .int .i64 0, .int .i64 0, .int .u8 0, .int .i64 0, .int .i64 0, .int .i64 0, .int .i64 0, .int .i64 0, .int .i64 0, .int .i64 0, .string ⟨#[120]⟩, .int .i64 0, .int .i64 0, .int .u64 0, .bool false, .slice none 0 0, .int .u64 1, .int .i64 4])] := by
  subst h3 h4
  kernel_rfl
theorem wpList_anTab {ops : Array Oper} {rest : List Oper} {o : Oper} {a : Act} {w : World} {Q : Exit → Act → World → Prop} {S1 S2 S3 S4 : ByteArray} (parts : Array (Nat × Operand)) (hg : o.guard = none) (ho : o.op = .buildSlice 71 21 parts)
    (h1 : S1 = str (zr 255)) (h2 : S2 = str (zr 256)) (h3 : S3 = str (zr 2048)) (h4 : S4 = str (zr 2049))
    (hp : (parts.map fun z => (z.1, a.eval z.2)).toList = [(0, .agg #[.int .i64 (-1), .int .i64 0, .int .i64 0, .int .i64 0, .int .i64 0, .int .i64 0, .int .i64 0, .string ⟨#[]⟩, .string ⟨#[]⟩, .string ⟨#[]⟩, .int .i64 0, .int .i64 0, .int .i64 0, .int .i64 0, .int .i64 0, .int .i64 0, .int .u64 0, .int .i64 62]),
  (1, .agg #[.int .i64 19, .int .i64 0, .int .i64 0, .int .i64 0, .int .i64 0, .int .i64 0, .int .i64 0, .string ⟨#[]⟩, .string ⟨#[]⟩, .string ⟨#[]⟩, .int .i64 0, .int .i64 0, .int .i64 0, .int .i64 0, .int .i64 0, .int .i64 0, .int .u64 0, .int .i64 62]),
  (2, .agg #[.int .i64 0, .int .i64 0, .int .i64 0, .int .i64 0, .int .i64 0, .int .i64 0, .int .i64 0, .string ⟨#[]⟩, .string ⟨#[]⟩, .string ⟨#[]⟩, .int .i64 0, .int .i64 0, .int .i64 0, .int .i64 0, .int .i64 0, .int .i64 0, .int .u64 0, .int .i64 0]),
  (3, .agg #[.int .i64 0, .int .i64 0, .int .i64 0, .int .i64 0, .int .i64 0, .int .i64 0, .int .i64 0, .string ⟨#[]⟩, .string ⟨#[]⟩, .string ⟨#[]⟩, .int .i64 0, .int .i64 1, .int .i64 0, .int .i64 0, .int .i64 0, .int .i64 0, .int .u64 0, .int .i64 4]),
  (4, .agg #[.int .i64 1, .int .i64 0, .int .i64 0, .int .i64 0, .int .i64 0, .int .i64 0, .int .i64 0, .string ⟨#[]⟩, .string ⟨#[]⟩, .string ⟨#[]⟩, .int .i64 0, .int .i64 0, .int .i64 0, .int .i64 0, .int .i64 0, .int .i64 0, .int .u64 0, .int .i64 4]),
  (5, .agg #[.int .i64 3, .int .i64 0, .int .i64 1, .int .i64 0, .int .i64 0, .int .i64 0, .int .i64 0, .string S1, .string ⟨#[]⟩, .string ⟨#[]⟩, .int .i64 0, .int .i64 0, .int .i64 0, .int .i64 0, .int .i64 0, .int .i64 0, .int .u64 0, .int .i64 0]),
  (6, .agg #[.int .i64 3, .int .i64 0, .int .i64 1, .int .i64 0, .int .i64 0, .int .i64 0, .int .i64 0, .string S2, .string ⟨#[]⟩, .string ⟨#[]⟩, .int .i64 0, .int .i64 0, .int .i64 0, .int .i64 0, .int .i64 0, .int .i64 0, .int .u64 0, .int .i64 4]),
  (7, .agg #[.int .i64 12, .int .i64 0, .int .i64 1, .int .i64 0, .int .i64 0, .int .i64 2, .int .i64 0, .string ⟨#[97]⟩, .string S2, .string ⟨#[]⟩, .int .i64 0, .int .i64 0, .int .i64 0, .int .i64 0, .int .i64 0, .int .i64 0, .int .u64 0, .int .i64 4]),
  (8, .agg #[.int .i64 12, .int .i64 0, .int .i64 1, .int .i64 0, .int .i64 0, .int .i64 0, .int .i64 0, .string ⟨#[97]⟩, .string ⟨#[98]⟩, .string ⟨#[]⟩, .int .i64 0, .int .i64 0, .int .i64 0, .int .i64 0, .int .i64 0, .int .i64 0, .int .u64 0, .int .i64 4]),
  (9, .agg #[.int .i64 6, .int .i64 0, .int .i64 1, .int .i64 0, .int .i64 0, .int .i64 0, .int .i64 0, .string ⟨#[]⟩, .string ⟨#[]⟩, .string S3, .int .i64 (-1), .int .i64 0, .int .i64 0, .int .i64 0, .int .i64 9, .int .i64 0, .int .u64 0, .int .i64 0]),
  (10, .agg #[.int .i64 6, .int .i64 0, .int .i64 1, .int .i64 0, .int .i64 0, .int .i64 0, .int .i64 0, .string ⟨#[]⟩, .string ⟨#[]⟩, .string S4, .int .i64 0, .int .i64 0, .int .i64 0, .int .i64 0, .int .i64 0, .int .i64 0, .int .u64 0, .int .i64 4]),
  (11, .agg #[.int .i64 2, .int .i64 0, .int .i64 1, .int .i64 0, .int .i64 0, .int .i64 0, .int .i64 0, .string ⟨#[]⟩, .string ⟨#[]⟩, .string ⟨#[]⟩, .int .i64 0, .int .i64 0, .int .i64 (-1), .int .i64 (-1), .int .i64 0, .int .i64 (-1), .int .u64 0, .int .i64 0]),
  (12, .agg #[.int .i64 2, .int .i64 0, .int .i64 1, .int .i64 0, .int .i64 0, .int .i64 0, .int .i64 0, .string ⟨#[]⟩, .string ⟨#[]⟩, .string ⟨#[]⟩, .int .i64 0, .int .i64 0, .int .i64 0, .int .i64 0, .int .i64 0, .int .i64 0, .int .u64 1, .int .i64 4]),
  (13, .agg #[.int .i64 14, .int .i64 0, .int .i64 1, .int .i64 0, .int .i64 0, .int .i64 0, .int .i64 0, .string ⟨#[]⟩, .string ⟨#[]⟩, .string ⟨#[]⟩, .int .i64 0, .int .i64 0, .int .i64 0, .int .i64 0, .int .i64 0, .int .i64 0, .int .u64 18446744073709551615, .int .i64 0]),
  (14, .agg #[.int .i64 7, .int .i64 0, .int .i64 1, .int .i64 0, .int .i64 0, .int .i64 0, .int .i64 0, .string ⟨#[97]⟩, .string ⟨#[]⟩, .string ⟨#[120]⟩, .int .i64 0, .int .i64 0, .int .i64 0, .int .i64 0, .int .i64 0, .int .i64 0, .int .u64 0, .int .i64 4]),
  (15, .agg #[.int .i64 15, .int .i64 0, .int .i64 1, .int .i64 0, .int .i64 0, .int .i64 1, .int .i64 0, .string ⟨#[]⟩, .string ⟨#[]⟩, .string ⟨#[]⟩, .int .i64 0, .int .i64 0, .int .i64 0, .int .i64 0, .int .i64 0, .int .i64 0, .int .u64 0, .int .i64 4]),
  (16, .agg #[.int .i64 16, .int .i64 0, .int .i64 1, .int .i64 0, .int .i64 0, .int .i64 0, .int .i64 0, .string ⟨#[]⟩, .string ⟨#[]⟩, .string ⟨#[]⟩, .int .i64 0, .int .i64 0, .int .i64 0, .int .i64 0, .int .i64 1, .int .i64 0, .int .u64 0, .int .i64 4]),
  (17, .agg #[.int .i64 10, .int .i64 0, .int .i64 1, .int .i64 0, .int .i64 0, .int .i64 0, .int .i64 0, .string ⟨#[]⟩, .string ⟨#[]⟩, .string ⟨#[]⟩, .int .i64 0, .int .i64 0, .int .i64 1, .int .i64 0, .int .i64 0, .int .i64 0, .int .u64 0, .int .i64 4]),
  (18, .agg #[.int .i64 11, .int .i64 0, .int .i64 1, .int .i64 0, .int .i64 0, .int .i64 0, .int .i64 0, .string ⟨#[]⟩, .string ⟨#[]⟩, .string ⟨#[]⟩, .int .i64 0, .int .i64 0, .int .i64 0, .int .i64 1, .int .i64 0, .int .i64 0, .int .u64 0, .int .i64 4]),
  (19, .agg #[.int .i64 17, .int .i64 0, .int .i64 1, .int .i64 0, .int .i64 0, .int .i64 0, .int .i64 0, .string ⟨#[]⟩, .string ⟨#[]⟩, .string ⟨#[]⟩, .int .i64 0, .int .i64 0, .int .i64 0, .int .i64 0, .int .i64 0, .int .i64 1, .int .u64 0, .int .i64 4]),
  (20, .agg #[.int .i64 18, .int .i64 0, .int .i64 1, .int .i64 0, .int .i64 0, .int .i64 0, .int .i64 0, .string ⟨#[]⟩, .string ⟨#[120]⟩, .string ⟨#[]⟩, .int .i64 0, .int .i64 0, .int .i64 0, .int .i64 0, .int .i64 0, .int .i64 0, .int .u64 0, .int .i64 4])])
    (h : wpList Try.prog ops Q rest (a.put o.dst (.slice (some ⟨w.heap.size, 0, none⟩) 21 21)) (w.alloc (.cells (anTab.flatMap anC).toArray TA))) : wpList Try.prog ops Q (o :: rest) a w := by
  refine wpList_plain hg fun K hK => ?_
  exact wp_anTab parts ho (hp.trans (an_hp h1 h2 h3 h4).symm) (hK _ _ h)
theorem rn_tl (ge g1 : Nat) : ((rnRows ge g1).map rnC).length = 24 := rfl
theorem rn_21 (ge g1 : Nat) : ∀ v ∈ (rnRows ge g1).map rnC, v.length = 21 := fun v hv => by obtain ⟨r, _, rfl⟩ := List.mem_map.1 hv; rfl
theorem rn_fl (ge g1 : Nat) : ((rnRows ge g1).map rnC).flatMap id = (rnRows ge g1).flatMap rnC := by simp [List.flatMap_map]
theorem rn_z : ((Try.prog.info? TR).bind (·.zero)).isSome = true := by kernel_rfl
theorem wp_rnTab {o : Oper} {a : Act} {w : World} {K : Act → World → Prop} {Q : Exit → Act → World → Prop} {S3 S4 : ByteArray} {ge g1 : Nat} (parts : Array (Nat × Operand)) (ho : o.op = .buildSlice 78 24 parts)
    (h3 : S3 = str (zr 2048)) (h4 : S4 = str (zr 2049))
    (hp : (parts.map fun z => (z.1, a.eval z.2)).toList = [(0, .agg #[.int .i64 19, .int .i64 0, .int .i64 0, .int .i64 0, .int .i64 0, .int .u8 0, .int .i64 0, .int .i64 0, .int .i64 0, .int .i64 0, .int .i64 0, .int .i64 0, .int .i64 0, .string ⟨#[]⟩, .int .i64 0, .int .i64 0, .int .u64 0, .bool false, .slice none 0 0, .int .u64 0, .int .i64 62]),
  (1, .agg #[.int .i64 0, .int .i64 0, .int .i64 0, .int .i64 0, .int .i64 0, .int .u8 0, .int .i64 0, .int .i64 0, .int .i64 0, .int .i64 0, .int .i64 0, .int .i64 0, .int .i64 0, .string ⟨#[]⟩, .int .i64 0, .int .i64 0, .int .u64 0, .bool false, .slice none 0 0, .int .u64 0, .int .i64 0]),
  (2, .agg #[.int .i64 0, .int .i64 63, .int .i64 0, .int .i64 0, .int .i64 0, .int .u8 0, .int .i64 0, .int .i64 0, .int .i64 0, .int .i64 0, .int .i64 0, .int .i64 0, .int .i64 0, .string ⟨#[]⟩, .int .i64 0, .int .i64 0, .int .u64 0, .bool false, .slice none 0 0, .int .u64 0, .int .i64 0]),
  (3, .agg #[.int .i64 0, .int .i64 64, .int .i64 0, .int .i64 0, .int .i64 0, .int .u8 0, .int .i64 0, .int .i64 0, .int .i64 0, .int .i64 0, .int .i64 0, .int .i64 0, .int .i64 0, .string ⟨#[]⟩, .int .i64 0, .int .i64 0, .int .u64 0, .bool false, .slice none 0 0, .int .u64 0, .int .i64 4]),
  (4, .agg #[.int .i64 0, .int .i64 (-1), .int .i64 0, .int .i64 0, .int .i64 0, .int .u8 0, .int .i64 0, .int .i64 0, .int .i64 0, .int .i64 0, .int .i64 0, .int .i64 0, .int .i64 0, .string ⟨#[]⟩, .int .i64 0, .int .i64 0, .int .u64 0, .bool false, .slice none 0 0, .int .u64 0, .int .i64 4]),
  (5, .agg #[.int .i64 1, .int .i64 0, .int .i64 0, .int .i64 0, .int .i64 0, .int .u8 2, .int .i64 (-1), .int .i64 0, .int .i64 0, .int .i64 0, .int .i64 0, .int .i64 0, .int .i64 1099511627776, .string ⟨#[]⟩, .int .i64 0, .int .i64 0, .int .u64 0, .bool false, .slice none 0 0, .int .u64 0, .int .i64 0]),
  (6, .agg #[.int .i64 1, .int .i64 1, .int .i64 0, .int .i64 0, .int .i64 0, .int .u8 2, .int .i64 (-1), .int .i64 0, .int .i64 0, .int .i64 0, .int .i64 0, .int .i64 0, .int .i64 1099511627776, .string ⟨#[]⟩, .int .i64 0, .int .i64 0, .int .u64 0, .bool false, .slice none 0 0, .int .u64 0, .int .i64 4]),
  (7, .agg #[.int .i64 1, .int .i64 0, .int .i64 0, .int .i64 0, .int .i64 0, .int .u8 4, .int .i64 0, .int .i64 0, .int .i64 0, .int .i64 0, .int .i64 0, .int .i64 0, .int .i64 0, .string ⟨#[]⟩, .int .i64 0, .int .i64 0, .int .u64 0, .bool false, .slice none 0 0, .int .u64 0, .int .i64 4]),
  (8, .agg #[.int .i64 1, .int .i64 0, .int .i64 0, .int .i64 0, .int .i64 0, .int .u8 0, .int .i64 0, .int .i64 0, .int .i64 0, .int .i64 0, .int .i64 0, .int .i64 0, .int .i64 0, .string ⟨#[]⟩, .int .i64 0, .int .i64 0, .int .u64 0, .bool false, .slice none 0 0, .int .u64 0, .int .i64 4]),
  (9, .agg #[.int .i64 3, .int .i64 0, .int .i64 0, .int .i64 0, .int .i64 0, .int .u8 2, .int .i64 (-1), .int .i64 0, .int .i64 0, .int .i64 0, .int .i64 0, .int .i64 0, .int .i64 1099511627776, .string ⟨#[]⟩, .int .i64 0, .int .i64 0, .int .u64 0, .bool false, .slice none 0 0, .int .u64 0, .int .i64 4]),
  (10, .agg #[.int .i64 3, .int .i64 0, .int .i64 0, .int .i64 3, .int .i64 0, .int .u8 2, .int .i64 (-1), .int .i64 0, .int .i64 0, .int .i64 0, .int .i64 0, .int .i64 0, .int .i64 1099511627776, .string ⟨#[]⟩, .int .i64 0, .int .i64 0, .int .u64 0, .bool false, .slice none 0 0, .int .u64 0, .int .i64 0]),
  (11, .agg #[.int .i64 5, .int .i64 0, .int .i64 0, .int .i64 0, .int .i64 0, .int .u8 2, .int .i64 (-1), .int .i64 0, .int .i64 0, .int .i64 0, .int .i64 0, .int .i64 0, .int .i64 1099511627776, .string S3, .int .i64 0, .int .i64 0, .int .u64 0, .bool true, .slice none 0 0, .int .u64 0, .int .i64 0]),
  (12, .agg #[.int .i64 5, .int .i64 0, .int .i64 0, .int .i64 0, .int .i64 0, .int .u8 2, .int .i64 (-1), .int .i64 0, .int .i64 0, .int .i64 0, .int .i64 0, .int .i64 0, .int .i64 1099511627776, .string S4, .int .i64 0, .int .i64 0, .int .u64 0, .bool false, .slice none 0 0, .int .u64 0, .int .i64 4]),
  (13, .agg #[.int .i64 14, .int .i64 0, .int .i64 0, .int .i64 0, .int .i64 0, .int .u8 0, .int .i64 0, .int .i64 0, .int .i64 0, .int .i64 0, .int .i64 0, .int .i64 0, .int .i64 0, .string ⟨#[]⟩, .int .i64 0, .int .i64 0, .int .u64 0, .bool false, .slice (some ⟨ge, 0, none⟩) 64 65, .int .u64 5, .int .i64 0]),
  (14, .agg #[.int .i64 14, .int .i64 0, .int .i64 0, .int .i64 0, .int .i64 0, .int .u8 0, .int .i64 0, .int .i64 0, .int .i64 0, .int .i64 0, .int .i64 0, .int .i64 0, .int .i64 0, .string ⟨#[]⟩, .int .i64 0, .int .i64 0, .int .u64 0, .bool false, .slice (some ⟨ge, 0, none⟩) 65 65, .int .u64 0, .int .i64 4]),
  (15, .agg #[.int .i64 14, .int .i64 0, .int .i64 0, .int .i64 0, .int .i64 0, .int .u8 0, .int .i64 0, .int .i64 0, .int .i64 0, .int .i64 0, .int .i64 0, .int .i64 0, .int .i64 0, .string ⟨#[]⟩, .int .i64 0, .int .i64 0, .int .u64 0, .bool false, .slice (some ⟨g1, 0, none⟩) 1 1, .int .u64 0, .int .i64 4]),
  (16, .agg #[.int .i64 15, .int .i64 0, .int .i64 0, .int .i64 0, .int .i64 0, .int .u8 0, .int .i64 0, .int .i64 0, .int .i64 0, .int .i64 0, .int .i64 0, .int .i64 0, .int .i64 0, .string ⟨#[]⟩, .int .i64 1, .int .i64 2, .int .u64 3, .bool false, .slice none 0 0, .int .u64 0, .int .i64 0]),
  (17, .agg #[.int .i64 16, .int .i64 0, .int .i64 0, .int .i64 0, .int .i64 0, .int .u8 0, .int .i64 0, .int .i64 0, .int .i64 0, .int .i64 0, .int .i64 0, .int .i64 0, .int .i64 0, .string ⟨#[]⟩, .int .i64 1, .int .i64 0, .int .u64 0, .bool false, .slice none 0 0, .int .u64 0, .int .i64 4]),
  (18, .agg #[.int .i64 17, .int .i64 0, .int .i64 0, .int .i64 1, .int .i64 0, .int .u8 0, .int .i64 0, .int .i64 0, .int .i64 0, .int .i64 0, .int .i64 0, .int .i64 0, .int .i64 0, .string ⟨#[]⟩, .int .i64 0, .int .i64 0, .int .u64 0, .bool false, .slice none 0 0, .int .u64 0, .int .i64 0]),
  (19, .agg #[.int .i64 18, .int .i64 0, .int .i64 0, .int .i64 1, .int .i64 0, .int .u8 0, .int .i64 0, .int .i64 0, .int .i64 0, .int .i64 0, .int .i64 0, .int .i64 0, .int .i64 0, .string ⟨#[]⟩, .int .i64 0, .int .i64 0, .int .u64 0, .bool false, .slice none 0 0, .int .u64 0, .int .i64 4]),
  (20, .agg #[.int .i64 10, .int .i64 0, .int .i64 0, .int .i64 0, .int .i64 0, .int .u8 0, .int .i64 0, .int .i64 0, .int .i64 0, .int .i64 0, .int .i64 0, .int .i64 0, .int .i64 0, .string ⟨#[]⟩, .int .i64 0, .int .i64 0, .int .u64 0, .bool true, .slice none 0 0, .int .u64 0, .int .i64 4]),
  (21, .agg #[.int .i64 12, .int .i64 0, .int .i64 0, .int .i64 0, .int .i64 0, .int .u8 0, .int .i64 0, .int .i64 0, .int .i64 0, .int .i64 0, .int .i64 0, .int .i64 0, .int .i64 0, .string ⟨#[]⟩, .int .i64 0, .int .i64 1, .int .u64 0, .bool false, .slice none 0 0, .int .u64 0, .int .i64 4]),
  (22, .agg #[.int .i64 11, .int .i64 0, .int .i64 0, .int .i64 0, .int .i64 0, .int .u8 0, .int .i64 0, .int .i64 0, .int .i64 0, .int .i64 0, .int .i64 0, .int .i64 0, .int .i64 0, .string ⟨#[]⟩, .int .i64 0, .int .i64 0, .int .u64 1, .bool false, .slice none 0 0, .int .u64 0, .int .i64 4]),
  (23, .agg #[.int .i64 4, .int .i64 0, .int .i64 0, .int .i64 0, .int .i64 0, .int .u8 0, .int .i64 0, .int .i64 0, .int .i64 0, .int .i64 0, .int .i64 0, .int .i64 0, .int .i64 0, .string ⟨#[120]⟩, .int .i64 0, .int .i64 0, .int .u64 0, .bool false, .slice none 0 0, .int .u64 1, .int .i64 4])])
    (h : K (a.put o.dst (.slice (some ⟨w.heap.size, 0, none⟩) 24 24)) (w.alloc (.cells ((rnRows ge g1).flatMap rnC).toArray TR))) : o.wp Try.prog a w K Q := by
  refine wp_bsN 78 TR 21 24 ((rnRows ge g1).map rnC) parts ho (rn_tl ge g1) Try.underlying78 info_rn rn_z (by decide) (by decide) (by decide) (rn_21 ge g1) (hp.trans (rn_hp (S2 := S3) ge g1 h3 h4).symm) ?_
  rw [rn_fl]
  exact h
theorem wpList_rnTab {ops : Array Oper} {rest : List Oper} {o : Oper} {a : Act} {w : World} {Q : Exit → Act → World → Prop} {S3 S4 : ByteArray} {ge g1 : Nat} (parts : Array (Nat × Operand)) (hg : o.guard = none) (ho : o.op = .buildSlice 78 24 parts)
    (h3 : S3 = str (zr 2048)) (h4 : S4 = str (zr 2049))
    (hp : (parts.map fun z => (z.1, a.eval z.2)).toList = [(0, .agg #[.int .i64 19, .int .i64 0, .int .i64 0, .int .i64 0, .int .i64 0, .int .u8 0, .int .i64 0, .int .i64 0, .int .i64 0, .int .i64 0, .int .i64 0, .int .i64 0, .int .i64 0, .string ⟨#[]⟩, .int .i64 0, .int .i64 0, .int .u64 0, .bool false, .slice none 0 0, .int .u64 0, .int .i64 62]),
  (1, .agg #[.int .i64 0, .int .i64 0, .int .i64 0, .int .i64 0, .int .i64 0, .int .u8 0, .int .i64 0, .int .i64 0, .int .i64 0, .int .i64 0, .int .i64 0, .int .i64 0, .int .i64 0, .string ⟨#[]⟩, .int .i64 0, .int .i64 0, .int .u64 0, .bool false, .slice none 0 0, .int .u64 0, .int .i64 0]),
  (2, .agg #[.int .i64 0, .int .i64 63, .int .i64 0, .int .i64 0, .int .i64 0, .int .u8 0, .int .i64 0, .int .i64 0, .int .i64 0, .int .i64 0, .int .i64 0, .int .i64 0, .int .i64 0, .string ⟨#[]⟩, .int .i64 0, .int .i64 0, .int .u64 0, .bool false, .slice none 0 0, .int .u64 0, .int .i64 0]),
  (3, .agg #[.int .i64 0, .int .i64 64, .int .i64 0, .int .i64 0, .int .i64 0, .int .u8 0, .int .i64 0, .int .i64 0, .int .i64 0, .int .i64 0, .int .i64 0, .int .i64 0, .int .i64 0, .string ⟨#[]⟩, .int .i64 0, .int .i64 0, .int .u64 0, .bool false, .slice none 0 0, .int .u64 0, .int .i64 4]),
  (4, .agg #[.int .i64 0, .int .i64 (-1), .int .i64 0, .int .i64 0, .int .i64 0, .int .u8 0, .int .i64 0, .int .i64 0, .int .i64 0, .int .i64 0, .int .i64 0, .int .i64 0, .int .i64 0, .string ⟨#[]⟩, .int .i64 0, .int .i64 0, .int .u64 0, .bool false, .slice none 0 0, .int .u64 0, .int .i64 4]),
  (5, .agg #[.int .i64 1, .int .i64 0, .int .i64 0, .int .i64 0, .int .i64 0, .int .u8 2, .int .i64 (-1), .int .i64 0, .int .i64 0, .int .i64 0, .int .i64 0, .int .i64 0, .int .i64 1099511627776, .string ⟨#[]⟩, .int .i64 0, .int .i64 0, .int .u64 0, .bool false, .slice none 0 0, .int .u64 0, .int .i64 0]),
  (6, .agg #[.int .i64 1, .int .i64 1, .int .i64 0, .int .i64 0, .int .i64 0, .int .u8 2, .int .i64 (-1), .int .i64 0, .int .i64 0, .int .i64 0, .int .i64 0, .int .i64 0, .int .i64 1099511627776, .string ⟨#[]⟩, .int .i64 0, .int .i64 0, .int .u64 0, .bool false, .slice none 0 0, .int .u64 0, .int .i64 4]),
  (7, .agg #[.int .i64 1, .int .i64 0, .int .i64 0, .int .i64 0, .int .i64 0, .int .u8 4, .int .i64 0, .int .i64 0, .int .i64 0, .int .i64 0, .int .i64 0, .int .i64 0, .int .i64 0, .string ⟨#[]⟩, .int .i64 0, .int .i64 0, .int .u64 0, .bool false, .slice none 0 0, .int .u64 0, .int .i64 4]),
  (8, .agg #[.int .i64 1, .int .i64 0, .int .i64 0, .int .i64 0, .int .i64 0, .int .u8 0, .int .i64 0, .int .i64 0, .int .i64 0, .int .i64 0, .int .i64 0, .int .i64 0, .int .i64 0, .string ⟨#[]⟩, .int .i64 0, .int .i64 0, .int .u64 0, .bool false, .slice none 0 0, .int .u64 0, .int .i64 4]),
  (9, .agg #[.int .i64 3, .int .i64 0, .int .i64 0, .int .i64 0, .int .i64 0, .int .u8 2, .int .i64 (-1), .int .i64 0, .int .i64 0, .int .i64 0, .int .i64 0, .int .i64 0, .int .i64 1099511627776, .string ⟨#[]⟩, .int .i64 0, .int .i64 0, .int .u64 0, .bool false, .slice none 0 0, .int .u64 0, .int .i64 4]),
  (10, .agg #[.int .i64 3, .int .i64 0, .int .i64 0, .int .i64 3, .int .i64 0, .int .u8 2, .int .i64 (-1), .int .i64 0, .int .i64 0, .int .i64 0, .int .i64 0, .int .i64 0, .int .i64 1099511627776, .string ⟨#[]⟩, .int .i64 0, .int .i64 0, .int .u64 0, .bool false, .slice none 0 0, .int .u64 0, .int .i64 0]),
  (11, .agg #[.int .i64 5, .int .i64 0, .int .i64 0, .int .i64 0, .int .i64 0, .int .u8 2, .int .i64 (-1), .int .i64 0, .int .i64 0, .int .i64 0, .int .i64 0, .int .i64 0, .int .i64 1099511627776, .string S3, .int .i64 0, .int .i64 0, .int .u64 0, .bool true, .slice none 0 0, .int .u64 0, .int .i64 0]),
  (12, .agg #[.int .i64 5, .int .i64 0, .int .i64 0, .int .i64 0, .int .i64 0, .int .u8 2, .int .i64 (-1), .int .i64 0, .int .i64 0, .int .i64 0, .int .i64 0, .int .i64 0, .int .i64 1099511627776, .string S4, .int .i64 0, .int .i64 0, .int .u64 0, .bool false, .slice none 0 0, .int .u64 0, .int .i64 4]),
  (13, .agg #[.int .i64 14, .int .i64 0, .int .i64 0, .int .i64 0, .int .i64 0, .int .u8 0, .int .i64 0, .int .i64 0, .int .i64 0, .int .i64 0, .int .i64 0, .int .i64 0, .int .i64 0, .string ⟨#[]⟩, .int .i64 0, .int .i64 0, .int .u64 0, .bool false, .slice (some ⟨ge, 0, none⟩) 64 65, .int .u64 5, .int .i64 0]),
  (14, .agg #[.int .i64 14, .int .i64 0, .int .i64 0, .int .i64 0, .int .i64 0, .int .u8 0, .int .i64 0, .int .i64 0, .int .i64 0, .int .i64 0, .int .i64 0, .int .i64 0, .int .i64 0, .string ⟨#[]⟩, .int .i64 0, .int .i64 0, .int .u64 0, .bool false, .slice (some ⟨ge, 0, none⟩) 65 65, .int .u64 0, .int .i64 4]),
  (15, .agg #[.int .i64 14, .int .i64 0, .int .i64 0, .int .i64 0, .int .i64 0, .int .u8 0, .int .i64 0, .int .i64 0, .int .i64 0, .int .i64 0, .int .i64 0, .int .i64 0, .int .i64 0, .string ⟨#[]⟩, .int .i64 0, .int .i64 0, .int .u64 0, .bool false, .slice (some ⟨g1, 0, none⟩) 1 1, .int .u64 0, .int .i64 4]),
  (16, .agg #[.int .i64 15, .int .i64 0, .int .i64 0, .int .i64 0, .int .i64 0, .int .u8 0, .int .i64 0, .int .i64 0, .int .i64 0, .int .i64 0, .int .i64 0, .int .i64 0, .int .i64 0, .string ⟨#[]⟩, .int .i64 1, .int .i64 2, .int .u64 3, .bool false, .slice none 0 0, .int .u64 0, .int .i64 0]),
  (17, .agg #[.int .i64 16, .int .i64 0, .int .i64 0, .int .i64 0, .int .i64 0, .int .u8 0, .int .i64 0, .int .i64 0, .int .i64 0, .int .i64 0, .int .i64 0, .int .i64 0, .int .i64 0, .string ⟨#[]⟩, .int .i64 1, .int .i64 0, .int .u64 0, .bool false, .slice none 0 0, .int .u64 0, .int .i64 4]),
  (18, .agg #[.int .i64 17, .int .i64 0, .int .i64 0, .int .i64 1, .int .i64 0, .int .u8 0, .int .i64 0, .int .i64 0, .int .i64 0, .int .i64 0, .int .i64 0, .int .i64 0, .int .i64 0, .string ⟨#[]⟩, .int .i64 0, .int .i64 0, .int .u64 0, .bool false, .slice none 0 0, .int .u64 0, .int .i64 0]),
  (19, .agg #[.int .i64 18, .int .i64 0, .int .i64 0, .int .i64 1, .int .i64 0, .int .u8 0, .int .i64 0, .int .i64 0, .int .i64 0, .int .i64 0, .int .i64 0, .int .i64 0, .int .i64 0, .string ⟨#[]⟩, .int .i64 0, .int .i64 0, .int .u64 0, .bool false, .slice none 0 0, .int .u64 0, .int .i64 4]),
  (20, .agg #[.int .i64 10, .int .i64 0, .int .i64 0, .int .i64 0, .int .i64 0, .int .u8 0, .int .i64 0, .int .i64 0, .int .i64 0, .int .i64 0, .int .i64 0, .int .i64 0, .int .i64 0, .string ⟨#[]⟩, .int .i64 0, .int .i64 0, .int .u64 0, .bool true, .slice none 0 0, .int .u64 0, .int .i64 4]),
  (21, .agg #[.int .i64 12, .int .i64 0, .int .i64 0, .int .i64 0, .int .i64 0, .int .u8 0, .int .i64 0, .int .i64 0, .int .i64 0, .int .i64 0, .int .i64 0, .int .i64 0, .int .i64 0, .string ⟨#[]⟩, .int .i64 0, .int .i64 1, .int .u64 0, .bool false, .slice none 0 0, .int .u64 0, .int .i64 4]),
  (22, .agg #[.int .i64 11, .int .i64 0, .int .i64 0, .int .i64 0, .int .i64 0, .int .u8 0, .int .i64 0, .int .i64 0, .int .i64 0, .int .i64 0, .int .i64 0, .int .i64 0, .int .i64 0, .string ⟨#[]⟩, .int .i64 0, .int .i64 0, .int .u64 1, .bool false, .slice none 0 0, .int .u64 0, .int .i64 4]),
  (23, .agg #[.int .i64 4, .int .i64 0, .int .i64 0, .int .i64 0, .int .i64 0, .int .u8 0, .int .i64 0, .int .i64 0, .int .i64 0, .int .i64 0, .int .i64 0, .int .i64 0, .int .i64 0, .string ⟨#[120]⟩, .int .i64 0, .int .i64 0, .int .u64 0, .bool false, .slice none 0 0, .int .u64 1, .int .i64 4])])
    (h : wpList Try.prog ops Q rest (a.put o.dst (.slice (some ⟨w.heap.size, 0, none⟩) 24 24)) (w.alloc (.cells ((rnRows ge g1).flatMap rnC).toArray TR))) : wpList Try.prog ops Q (o :: rest) a w := by
  refine wpList_plain hg fun K hK => ?_
  exact wp_rnTab parts ho h3 h4 hp (hK _ _ h)
end
end Go.Proofs.Yteahlnoonmfjhaa
