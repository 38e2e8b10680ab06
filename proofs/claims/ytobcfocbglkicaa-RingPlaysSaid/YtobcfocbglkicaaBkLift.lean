/- How blocks are opened among a law's arguments. -/
import Derived.Test.YtobcfocbglkicaaPtLift
import Derived.Test.YtobcfocbglkicaaMb
set_option linter.unusedVariables false
set_option maxRecDepth 100000
namespace Go.Proofs.Ytobcfocbglkicaa
open Go.RowKit Go.ChangeShapes Go.WideShapes Go.ChangeAt Go.Deep
structure BkT where
  l : List UInt8
def BkT.v (x : BkT) : Value := .agg (bvs x.l).toArray
structure BkT.Ok (x : BkT) : Prop where
  l : x.l.length = 512
section
variable {H : Type} {enc : TypeId × Value → H} {W : World} {base : Nat} {b0 : Nat} {spare : Nat → Bool} {held : Bool}
theorem bytes_of_cells : ∀ (cs : List Value), (∀ i (h : i < cs.length), ∃ c : UInt8, cs[i] = bv c) → ∃ l : List UInt8, cs = bvs l
  | [], _ => ⟨[], rfl⟩
  | v :: cs, h => by
    obtain ⟨c, hc⟩ := h 0 (by simp)
    obtain ⟨l, hl⟩ := bytes_of_cells cs (fun i hi => by have := h (i + 1) (by simp; omega); simpa using this)
    exact ⟨c :: l, by simp only [List.getElem_cons_zero] at hc; rw [hc, hl]; rfl⟩
theorem cells_blk : Try.prog.cellsOf 25 = 512 := by kernel_rfl
theorem cells_u8 : Try.prog.cellsOf 5 = 1 := by kernel_rfl
theorem open_blk {v : Value} {d : DataW H} {p : List MemPlace} {r : Reach} (hv : Value.okWide Try.prog W r b0 25 v) (h : DataW.Trod enc Try.prog W base spare held 25 v d p) : ∃ x : BkT, v = x.v ∧ x.Ok := by
  have hf : ∃ cs : Array Value, v = .agg cs := by
    unfold Value.okWide at hv
    simp only [Try.underlying25] at hv
    cases v with
    | agg cs => exact ⟨cs, rfl⟩
    | _ => simp at hv
  obtain ⟨cs, rfl⟩ := hf
  obtain ⟨fuel, hf⟩ := h
  obtain ⟨xs, m, _, hx, hlen, hxl, hi⟩ := DataW.trod_array Try.underlying25 hf
  rw [cells_blk] at hlen
  simp only [Value.cells] at hlen hi
  obtain ⟨l, hl⟩ := bytes_of_cells cs.toList (fun i h => by
    have h1 := hi i (by omega)
    rw [cells_u8, Nat.mul_one, List.getElem?_eq_getElem (by omega)] at h1
    have h2 : (cs.toList.drop i).take 1 = [cs.toList[i]] := by rw [List.drop_eq_getElem_cons h]; rfl
    rw [h2] at h1
    obtain ⟨n, e, _, wn⟩ := DataW.trod_int Try.underlying5 h1
    simp only [List.cons.injEq, and_true] at e
    have hb : 0 ≤ n ∧ n ≤ 255 := by simp [Lit.wf, IntKind.min, IntKind.max, IntKind.signed, IntKind.bits] at wn; omega
    exact ⟨byteOf n, by rw [e, bv_byteOf, Int.emod_eq_of_lt hb.1 (by omega)]⟩)
  refine ⟨⟨l⟩, ?_, ⟨by rw [hl, bvs_length] at hlen; exact hlen⟩⟩
  show Value.agg cs = .agg (bvs l).toArray
  rw [← hl]
end
end Go.Proofs.Ytobcfocbglkicaa
