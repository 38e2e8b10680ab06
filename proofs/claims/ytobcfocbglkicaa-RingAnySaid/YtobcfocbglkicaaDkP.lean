/- Arrays of bytes beside a disk: what was written last. -/
import Derived.Test.YtobcfocbglkicaaDkO
set_option linter.unusedVariables false
set_option maxRecDepth 100000
namespace Go.Proofs.Ytobcfocbglkicaa
open Go.RowKit

def z64 : List UInt8 := List.replicate 64 0
theorem z64_length : z64.length = 64 := List.length_replicate
theorem info_64 : (Try.prog.info? 53).map (·.size) = some 64 := by kernel_rfl
theorem alloc_64 (w : World) : (Instr.alloc 53 true (.tuple #[])).run Try.prog w = .ok (.pointer (some ⟨w.heap.size, 0, none⟩)) (w.alloc (.cells (bvs z64).toArray 53)) := by kernel_rfl
theorem st_64n (l : List UInt8) (hl : l.length = 64) (w : World) : (Instr.storeAt 53 (.pointer (some ⟨w.heap.size, 0, none⟩)) (.agg (bvs l).toArray)).run Try.prog (w.alloc (.cells (bvs z64).toArray 53)) = .ok () (w.alloc (.cells (bvs l).toArray 53)) := by
  have st := storeAt_row (P := Try.prog) (ty := 53) (cs := (bvs l).toArray) (heap_alloc_last w (.cells (bvs z64).toArray 53)) (by rw [info_64, bvs_size, hl]) (by rw [bvs_size, bvs_size, z64_length, hl]) (oneCells _)
  rw [World.setRow_alloc_new] at st
  exact st
theorem ld_64 {w : World} {g : Nat} {t : TypeId} {fr : Nat × Nat} {l : List UInt8} (hg : w.heap[g]? = some (.cells (bvs l).toArray t fr)) (hl : l.length = 64) :
    (Instr.loadAt 53 (.pointer (some ⟨g, 0, none⟩))).run Try.prog w = .ok (.agg (bvs l).toArray) w :=
  loadAt_row hg Try.underlying53 (by rw [info_64, bvs_size, hl])
/-- The array says what was written last. -/
structure Arr (l : List Wr) (a : List UInt8) : Prop where
  len : a.length = 64
  is : ∀ z : Nat, (h : z < a.length) → (lastB l (z : Int)).getD zB = blk0 a[z]
theorem arr_zero : Arr [] z64 := ⟨z64_length, fun z h => by
  have : z64[z] = 0 := by unfold z64; exact List.getElem_replicate _
  rw [this]
  rfl⟩
theorem Arr.upd {l : List Wr} {a : List UInt8} (h : Arr l a) {z : Nat} (hz : z < 64) {c : UInt8} (hc : c ≠ 0) : Arr (l ++ [((z : Int), blkC c)]) (a.set z c) := by
  refine ⟨by rw [List.length_set, h.len], fun y hy => ?_⟩
  rw [lastB_snoc, List.getElem_set]
  by_cases e : z = y
  · subst e
    rw [if_pos rfl, if_pos rfl, blk0_ne hc]
    rfl
  · rw [if_neg e, if_neg (by simp only; omega)]
    exact h.is y _
theorem Arr.isV {on : List Wr} {a : List UInt8} (h : Arr on a) {z : Nat} (hz : z < a.length) : isV ⟨64, on, [], 0, [], false⟩ (z : Int) a[z] = true := by
  have := h.len
  unfold Go.Proofs.Ytobcfocbglkicaa.isV
  rw [DK.read_go (by omega) (by omega), List.append_nil, h.is z hz]
  simp [eqB]
section
variable {W w : World} {loc : List (Nat × Obj)} {ds : List (Nat × DK)}
theorem DSt.cellb (h : DSt W loc ds w) (i : Nat) {g : Nat} {a : List UInt8} {T : TypeId} (hi : loc[i]? = some (g, .cells (bvs a).toArray T (0, 0))) {z : Nat} (hz : z < a.length) : w.cell? ⟨g, z, none⟩ = some (.int .u8 (a[z].toNat : Int)) ∧ w.frozen? ⟨g, z, none⟩ = false := by
  have hg := h.get i hi
  refine ⟨?_, by simp [World.frozen?, hg]⟩
  rw [cell_of_row _ _ _ _ _ _ hg, List.getElem?_toArray, bvs_get hz]
  rfl
theorem DSt.byte (h : DSt W loc ds w) (i : Nat) {g : Nat} {a : List UInt8} {T : TypeId} (hi : loc[i]? = some (g, .cells (bvs a).toArray T (0, 0))) (z : Nat) {n : Int} {d : UInt8} (hn : n = d.toNat) :
    w.setCell ⟨g, z, none⟩ (.int .u8 n) = w.setRow g (bvs (a.set z d)).toArray ∧ DSt W (loc.set i (g, .cells (bvs (a.set z d)).toArray T (0, 0))) ds (w.setRow g (bvs (a.set z d)).toArray) := by
  subst hn
  exact ⟨setCell_row (h.get i hi) d, h.row i hi _⟩
theorem DSt.yes (h : DSt W loc ds w) (i : Nat) {g n j : Nat} {T : TypeId} (hi : loc[i]? = some (g, .cells (bcs (List.replicate j true ++ List.replicate (n - j) false)).toArray T (0, 0))) (hj : j < n) :
    w.cell? ⟨g, j, none⟩ = some (.bool false) ∧ w.frozen? ⟨g, j, none⟩ = false ∧ w.setCell ⟨g, j, none⟩ (.bool true) = w.setRow g (bcs (List.replicate (j + 1) true ++ List.replicate (n - (j + 1)) false)).toArray ∧
      DSt W (loc.set i (g, .cells (bcs (List.replicate (j + 1) true ++ List.replicate (n - (j + 1)) false)).toArray T (0, 0))) ds (w.setRow g (bcs (List.replicate (j + 1) true ++ List.replicate (n - (j + 1)) false)).toArray) := by
  have hk := h.get i hi
  refine ⟨?_, by simp [World.frozen?, hk], ?_, h.row i hi _⟩
  · rw [cell_of_row _ _ _ _ _ _ hk]
    simp only [bcs, List.getElem?_toArray, List.getElem?_map]
    rw [List.getElem?_append_right (by simp), List.length_replicate, Nat.sub_self, List.getElem?_replicate, if_pos (by omega)]
    rfl
  · rw [← row_true _ _ hj]
    exact setCell_eq_setRow w g j _ _ _ (.bool true) hk
end
theorem u8_ofNat {n : Nat} (h : n < 256) : (n : Int) = ((UInt8.ofNat n).toNat : Int) := by
  rw [UInt8.toNat_ofNat']
  omega
theorem u8_ne {n : Nat} (h : n < 256) (h0 : n ≠ 0) : UInt8.ofNat n ≠ 0 := fun e => by
  have := congrArg UInt8.toNat e
  rw [UInt8.toNat_ofNat'] at this
  simp at this
  omega
end Go.Proofs.Ytobcfocbglkicaa
