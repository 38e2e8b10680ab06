/- Generic: a slice of bytes among a law's arguments. No statement of its own. -/
import Derived.Test.YteahlnoonmfjhaaLift
import Derived.Test.YteahlnoonmfjhaaBytes
import Derived.ChangeSlices
set_option linter.unusedVariables false
namespace Go.Proofs.Yteahlnoonmfjhaa
open Go.RowKit Go.ChangeShapes Go.WideShapes Go.ChangeAt Go.Deep
section
variable {H : Type} {enc : TypeId × Value → H} {P : Program} {W : World} {base : Nat} {b0 : Nat} {spare : Nat → Bool} {held : Bool}

theorem shape_lt {w : World} {b : Nat} {x : TypeId × Nat} (h : w.shape? b = some x) : b < w.heap.size := by
  unfold World.shape? at h
  cases hb : w.heap[b]? with
  | none => simp [hb] at h
  | some o => exact (Array.getElem?_eq_some_iff.1 hb).1

theorem has_slice {t e : TypeId} {a : Addr} {len cap : Nat} {r : Reach} (ht : P.underlying t = some (.slice e)) (hv : Value.okWide P W r b0 t (.slice (some a) len cap)) : a.spot = none ∧ a.block < W.heap.size := by
  unfold Value.okWide at hv
  simp only [ht] at hv
  unfold Cell.okWide at hv
  simp only [ht] at hv
  unfold Cell.ok at hv
  simp only [ht] at hv
  obtain ⟨_, _, h⟩ := hv
  obtain ⟨_, hs, row, cells, hsh, _⟩ := h
  exact ⟨hs, shape_lt hsh⟩

theorem open_bytes {t e : TypeId} {v : Value} {d : DataW H} {p : List MemPlace} {r : Reach} (ht : P.underlying t = some (.slice e)) (he : P.underlying e = some (.int .u8)) (hc : P.cellsOf e = 1)
    (hv : Value.okWide P W r b0 t v) (h : DataW.Trod enc P W base spare held t v d p) : ∃ l : List UInt8, RS W v l ∧ l.length ≤ maxLen := by
  obtain ⟨a0, len, cap, rfl⟩ := okWide_slice ht hv
  obtain ⟨m, hm⟩ := h
  rcases open_ints ht he hc hm with ⟨h0, _⟩ | ⟨a, len', cap', zs, h0, hb, hl, hcap, hz, _, hcell, hw⟩
  · obtain ⟨rfl, rfl, rfl⟩ : a0 = none ∧ len = 0 ∧ cap = 0 := by simpa [Value.cells] using h0
    exact ⟨[], RS.nil, Nat.zero_le _⟩
  · obtain ⟨rfl, rfl, rfl⟩ : a0 = some a ∧ len = len' ∧ cap = cap' := by simpa [Value.cells] using h0
    obtain ⟨hs, hlt⟩ := has_slice ht hv
    obtain ⟨b, off, spot⟩ := a
    simp only at hs
    subst hs
    have hlz : len ≤ zs.length := by rw [hz]; split <;> omega
    have hlen : ((zs.take len).map byteOf).length = len := by simp; omega
    refine ⟨(zs.take len).map byteOf, .inr ⟨b, off, cap, by rw [hlen], hlt, by omega, fun j hj => ?_⟩, by omega⟩
    rw [hlen] at hj
    have hc' := hcell j (by omega)
    rw [Addr.add_lit] at hc'
    rw [hc']
    have hj' : j < zs.length := by omega
    have hwf := hw zs[j] (by simp)
    have hb : 0 ≤ zs[j] ∧ zs[j] ≤ 255 := by simpa [Lit.wf, IntKind.has, IntKind.min, IntKind.max, IntKind.signed, IntKind.bits] using hwf
    simp only [bvs, List.map_map, List.getElem?_map, List.getElem?_take, if_pos hj, List.getElem?_eq_getElem hj', Option.map_some, Function.comp, bv_byteOf, List.getD, Option.getD_some]
    rw [Int.emod_eq_of_lt hb.1 (by omega)]
end
end Go.Proofs.Yteahlnoonmfjhaa
