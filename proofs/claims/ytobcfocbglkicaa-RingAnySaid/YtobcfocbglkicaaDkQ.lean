/- An array of 64 blocks beside a disk. -/
import Derived.Test.YtobcfocbglkicaaDkP
import Derived.Deep.MidRow
set_option linter.unusedVariables false
set_option maxRecDepth 100000
namespace Go.Proofs.Ytobcfocbglkicaa
open Go.RowKit

def dblV (l : List Value) : Nat → List Value
  | 0 => l
  | k + 1 => List.append (dblV l k) (dblV l k)
theorem dblV_eq (n : Nat) (v : Value) : ∀ k, dblV (List.replicate n v) k = List.replicate (2 ^ k * n) v
  | 0 => by simp [dblV]
  | k + 1 => by
    show List.append (dblV _ k) (dblV _ k) = _
    rw [dblV_eq n v k]
    show List.replicate (2 ^ k * n) v ++ List.replicate (2 ^ k * n) v = _
    rw [List.replicate_append_replicate]
    congr 1
    rw [Nat.pow_succ, Nat.mul_comm (2 ^ k) 2, Nat.mul_assoc]
    omega
theorem alloc_70' (w : World) : (Instr.alloc 70 true (.tuple #[])).run Try.prog w = .ok (.pointer (some ⟨w.heap.size, 0, none⟩)) (w.alloc (.cells (dblV (bvs z64) 9).toArray 70)) := by kernel_rfl
def zA : List UInt8 := List.replicate 32768 0
theorem alloc_70 (w : World) : (Instr.alloc 70 true (.tuple #[])).run Try.prog w = .ok (.pointer (some ⟨w.heap.size, 0, none⟩)) (w.alloc (.cells (bvs zA).toArray 70)) := by
  have e : dblV (bvs z64) 9 = bvs zA := by
    unfold z64 zA bvs
    rw [List.map_replicate, List.map_replicate, dblV_eq]
  rw [alloc_70', e]
/-- The block at a place of the array. -/
def blkAt (L : List UInt8) (k : Nat) : List UInt8 := (L.drop (k * 512)).take 512
def updB (L : List UInt8) (k : Nat) (b : List UInt8) : List UInt8 := L.take (k * 512) ++ b ++ L.drop (k * 512 + 512)
theorem blkAt_length {L : List UInt8} (h : L.length = 32768) {k : Nat} (hk : k < 64) : (blkAt L k).length = 512 := by
  simp [blkAt]; omega
theorem updB_length {L b : List UInt8} (h : L.length = 32768) {k : Nat} (hk : k < 64) (hb : b.length = 512) : (updB L k b).length = 32768 := by
  simp [updB]; omega
theorem updB_get {L b : List UInt8} (h : L.length = 32768) {k : Nat} (hk : k < 64) (hb : b.length = 512) (i : Nat) : (updB L k b)[i]? = if k * 512 ≤ i ∧ i < k * 512 + 512 then b[i - k * 512]? else L[i]? := by
  have h1 : (L.take (k * 512)).length = k * 512 := by simp; omega
  unfold updB
  rw [List.append_assoc, List.getElem?_append]
  by_cases c : i < k * 512
  · rw [if_pos (by omega), if_neg (by omega), List.getElem?_take, if_pos c]
  · rw [if_neg (by omega), List.getElem?_append, h1]
    by_cases c2 : i < k * 512 + 512
    · rw [if_pos (by omega), if_pos (by omega)]
    · rw [if_neg (by omega), if_neg (by omega), List.getElem?_drop]
      congr 1
      omega
theorem blkAt_get (L : List UInt8) (k i : Nat) : (blkAt L k)[i]? = if i < 512 then L[k * 512 + i]? else none := by
  unfold blkAt
  rw [List.getElem?_take]
  split
  · rw [List.getElem?_drop]
  · rfl
theorem blkAt_upd {L b : List UInt8} (h : L.length = 32768) {k : Nat} (hk : k < 64) (hb : b.length = 512) (j : Nat) : blkAt (updB L k b) j = if j = k then b else blkAt L j := by
  apply List.ext_getElem?
  intro i
  rw [blkAt_get]
  by_cases e : j = k
  · subst e
    rw [if_pos rfl]
    by_cases c : i < 512
    · rw [if_pos c, updB_get h hk hb, if_pos (by omega)]
      congr 1
      omega
    · rw [if_neg c, List.getElem?_eq_none (by omega)]
  · rw [if_neg e, blkAt_get]
    by_cases c : i < 512
    · rw [if_pos c, if_pos c, updB_get h hk hb, if_neg]
      rcases Nat.lt_or_gt_of_ne e with e | e <;> omega
    · rw [if_neg c, if_neg c]
structure Arrs (l : List Wr) (L : List UInt8) : Prop where
  len : L.length = 32768
  is : ∀ z : Nat, z < 64 → (lastB l (z : Int)).getD zB = blkAt L z
theorem arrs_zero : Arrs [] zA := ⟨List.length_replicate, fun z h => by
  unfold blkAt zA
  rw [List.drop_replicate, List.take_replicate]
  show zB = _
  unfold zB
  congr 1
  omega⟩
theorem Arrs.upd {l : List Wr} {L b : List UInt8} (h : Arrs l L) {z : Nat} (hz : z < 64) (hb : b.length = 512) : Arrs (l ++ [((z : Int), b)]) (updB L z b) := by
  refine ⟨updB_length h.len hz hb, fun y hy => ?_⟩
  rw [lastB_snoc, blkAt_upd h.len hz hb]
  by_cases e : y = z
  · subst e
    rw [if_pos rfl, if_pos rfl]
    rfl
  · rw [if_neg e, if_neg (by simp only; omega)]
    exact h.is y hy
theorem setCells_row : ∀ (vs X old Y : List Value) (w : World) (g : Nat) (T : TypeId), w.heap[g]? = some (.cells (X ++ old ++ Y).toArray T (0, 0)) → old.length = vs.length → w.setCells g X.length vs = w.setRow g (X ++ vs ++ Y).toArray
  | [], X, old, Y, w, g, T, hg, hl => by
    obtain rfl : old = [] := List.length_eq_zero_iff.1 hl
    exact (setRow_self w g _ _ _ hg).symm
  | v :: vs, X, [], Y, w, g, T, hg, hl => by simp at hl
  | v :: vs, X, o :: old, Y, w, g, T, hg, hl => by
    have h1 : w.setCell ⟨g, X.length, none⟩ v = w.setRow g (X ++ [v] ++ old ++ Y).toArray := by
      rw [setCell_eq_setRow w g X.length _ T (0, 0) v hg]
      congr 1
      apply Array.ext'
      simp
    have h2 := setRow_heap w g _ (X ++ [v] ++ old ++ Y).toArray _ _ hg
    have ih := setCells_row vs (X ++ [v]) old Y (w.setRow g (X ++ [v] ++ old ++ Y).toArray) g T h2 (by simpa using hl)
    rw [List.length_append, List.length_singleton] at ih
    show (w.setCell ⟨g, X.length, none⟩ v).setCells g (X.length + 1) vs = _
    rw [h1, ih, setRow_setRow]
    simp
section
variable {W w : World} {loc : List (Nat × Obj)} {ds : List (Nat × DK)}
theorem DSt.blk (h : DSt W loc ds w) (i : Nat) {g : Nat} {L : List UInt8} {T : TypeId} (hi : loc[i]? = some (g, .cells (bvs L).toArray T (0, 0))) (hL : L.length = 32768) {z : Nat} (hz : z < 64) {b : List UInt8} (hb : b.length = 512) :
    (Instr.storeAt 25 (.pointer (some ⟨g, z * 512, none⟩)) (.agg (bvs b).toArray)).run Try.prog w = .ok () (w.setRow g (bvs (updB L z b)).toArray) ∧ DSt W (loc.set i (g, .cells (bvs (updB L z b)).toArray T (0, 0))) ds (w.setRow g (bvs (updB L z b)).toArray) := by
  have hg := h.get i hi
  refine ⟨?_, h.row i hi _⟩
  have ht : w.there g (z * 512) (bvs b).toArray.size := fun j hj => by
    rw [bvs_size, hb] at hj
    refine ⟨?_, by simp [World.frozen?, hg]⟩
    rw [cell_of_row _ _ _ _ _ _ hg, List.getElem?_toArray, bvs_get (by omega)]
    rfl
  rw [run_storeAt_mid w g (z * 512) _ _ ht (by rw [info_blk, bvs_size, hb]) (oneCells _)]
  have h1 : ((bvs L).take (z * 512)).length = z * 512 := by simp [bvs]; omega
  have h2 := setCells_row (bvs b) ((bvs L).take (z * 512)) (((bvs L).drop (z * 512)).take 512) ((bvs L).drop (z * 512 + 512)) w g T (by
    have e : (bvs L).take (z * 512) ++ ((bvs L).drop (z * 512)).take 512 ++ (bvs L).drop (z * 512 + 512) = bvs L := by rw [← List.drop_drop, List.append_assoc, List.take_append_drop, List.take_append_drop]
    rw [e]
    exact hg) (by simp [bvs]; omega)
  rw [h1] at h2
  show Result.ok () (w.setCells g (z * 512) (bvs b)) = _
  rw [h2]
  congr 3
  simp [updB, bvs]
theorem DSt.blkld (h : DSt W loc ds w) (i : Nat) {g : Nat} {L : List UInt8} {T : TypeId} (hi : loc[i]? = some (g, .cells (bvs L).toArray T (0, 0))) (hL : L.length = 32768) {z : Nat} (hz : z < 64) :
    (Instr.loadAt 25 (.pointer (some ⟨g, z * 512, none⟩))).run Try.prog w = .ok (.agg (bvs (blkAt L z)).toArray) w := by
  have hg := h.get i hi
  refine run_loadAt_mid w g (z * 512) _ (bvs (blkAt L z)) _ (fun j v hv => ?_) Try.underlying25 rfl (by rw [info_blk, bvs_length, blkAt_length hL hz])
  rw [cell_of_row _ _ _ _ _ _ hg, List.getElem?_toArray]
  have hj := (List.getElem?_eq_some_iff.1 hv).1
  rw [bvs_length, blkAt_length hL hz] at hj
  rw [← hv]
  simp only [bvs, List.getElem?_map]
  rw [blkAt_get, if_pos hj]
end
end Go.Proofs.Ytobcfocbglkicaa
