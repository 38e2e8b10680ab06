/- Generic: slices of one-cell elements that came in. No statement of its own. -/
import Derived.Test.YtbbkailmlaffjaaCalm
import Derived.Test.YtbbkailmlaffjaaBytes
import Derived.Test.YtbbkailmlaffjaaLiftB
import Derived.SliceStrings
set_option linter.unusedVariables false
namespace Go.Proofs.Ytbbkailmlaffjaa
open Go.RowKit

/-- v is a slice of these one-cell elements, which can be read in w. -/
def VS (w : World) (v : Value) (l : List Value) : Prop :=
  (v = .slice none 0 0 ∧ l = []) ∨ ∃ b off c, v = .slice (some ⟨b, off, none⟩) l.length c ∧ b < w.heap.size ∧ l.length ≤ c ∧ ∀ j (h : j < l.length), w.cell? ⟨b, off + j, none⟩ = some l[j]
theorem VS.form {w : World} {v : Value} {l : List Value} (h : VS w v l) : ∃ A c, v = .slice A l.length c := by
  rcases h with ⟨rfl, rfl⟩ | ⟨b, off, c, rfl, _⟩
  · exact ⟨none, 0, rfl⟩
  · exact ⟨_, c, rfl⟩
theorem VS.some_of {w : World} {A : Option Addr} {n c : Nat} {l : List Value} (h : VS w (.slice A n c) l) (hl : 0 < l.length) : ∃ b off, A = some ⟨b, off, none⟩ ∧ n = l.length ∧ b < w.heap.size ∧ n ≤ c ∧ ∀ j (h : j < l.length), w.cell? ⟨b, off + j, none⟩ = some l[j] := by
  rcases h with ⟨_, h⟩ | ⟨b, off, c', h, hb, hc, hj⟩
  · subst h; simp at hl
  · simp only [Value.slice.injEq] at h
    obtain ⟨rfl, rfl, rfl⟩ := h
    exact ⟨b, off, rfl, rfl, hb, hc, hj⟩
structure NumsT where
  v : Value
  l : List Int
structure NumsT.Ok (k : IntKind) (w : World) (x : NumsT) : Prop where
  vs : VS w x.v (x.l.map (Value.int k))
  len : x.l.length ≤ maxLen
  wf : ∀ n ∈ x.l, (Lit.int k n).wf = true
structure StrsT where
  v : Value
  l : List (List UInt8)
def strV (s : List UInt8) : Value := .string (str s)
structure StrsT.Ok (w : World) (x : StrsT) : Prop where
  vs : VS w x.v (x.l.map strV)
  len : x.l.length ≤ maxLen
  each : ∀ s ∈ x.l, s.length ≤ maxLen
end Go.Proofs.Ytbbkailmlaffjaa
namespace Go.Proofs.Ytbbkailmlaffjaa
open Go.RowKit Go.ChangeShapes Go.WideShapes Go.ChangeAt Go.Deep
section
variable {H : Type} {enc : TypeId × Value → H} {P : Program} {W : World} {base : Nat} {b0 : Nat} {spare : Nat → Bool} {held : Bool}
theorem open_nums {t e : TypeId} {k : IntKind} {v : Value} {d : DataW H} {p : List MemPlace} {r : Reach} (ht : P.underlying t = some (.slice e)) (he : P.underlying e = some (.int k)) (hc : P.cellsOf e = 1)
    (hv : Value.okWide P W r b0 t v) (h : DataW.Trod enc P W base spare held t v d p) : ∃ x : NumsT, v = x.v ∧ x.Ok k W := by
  obtain ⟨a0, len, cap, rfl⟩ := okWide_slice ht hv
  obtain ⟨m, hm⟩ := h
  rcases open_ints ht he hc hm with ⟨h0, _⟩ | ⟨a, len', cap', zs, h0, hb, hl, hcap, hz, _, hcell, hw⟩
  · obtain ⟨rfl, rfl, rfl⟩ : a0 = none ∧ len = 0 ∧ cap = 0 := by simpa [Value.cells] using h0
    exact ⟨⟨_, []⟩, rfl, .inl ⟨rfl, rfl⟩, Nat.zero_le _, fun _ h => by cases h⟩
  · obtain ⟨rfl, rfl, rfl⟩ : a0 = some a ∧ len = len' ∧ cap = cap' := by simpa [Value.cells] using h0
    obtain ⟨hs, hlt⟩ := has_slice ht hv
    obtain ⟨b, off, spot⟩ := a
    simp only at hs
    subst hs
    have hlz : len ≤ zs.length := by rw [hz]; split <;> omega
    have hlen : ((zs.take len).map (Value.int k)).length = len := by simp; omega
    refine ⟨⟨_, zs.take len⟩, rfl, .inr ⟨b, off, cap, by simp; omega, hlt, by simp; omega, fun j hj => ?_⟩, by simp; omega, fun n hn => hw n (List.mem_of_mem_take hn)⟩
    have hj : j < len := by simp at hj; omega
    have hc' := hcell j (by omega)
    rw [Addr.add_lit] at hc'
    rw [hc']
    simp [List.getElem?_eq_getElem (show j < zs.length by omega)]
theorem open_strs {t e : TypeId} {v : Value} {d : DataW H} {p : List MemPlace} {r : Reach} (ht : P.underlying t = some (.slice e)) (he : P.underlying e = some .string) (hc : P.cellsOf e = 1)
    (hv : Value.okWide P W r b0 t v) (h : DataW.Trod enc P W base spare held t v d p) : ∃ x : StrsT, v = x.v ∧ x.Ok W := by
  obtain ⟨a0, len, cap, rfl⟩ := okWide_slice ht hv
  obtain ⟨m, hm⟩ := h
  rcases open_strings ht he hc hm with ⟨h0, _⟩ | ⟨a, len', cap', ss, h0, hb, hl, hcap, hz, _, hcell, hw⟩
  · obtain ⟨rfl, rfl, rfl⟩ : a0 = none ∧ len = 0 ∧ cap = 0 := by simpa [Value.cells] using h0
    exact ⟨⟨_, []⟩, rfl, .inl ⟨rfl, rfl⟩, Nat.zero_le _, fun _ h => by cases h⟩
  · obtain ⟨rfl, rfl, rfl⟩ : a0 = some a ∧ len = len' ∧ cap = cap' := by simpa [Value.cells] using h0
    obtain ⟨hs, hlt⟩ := has_slice ht hv
    obtain ⟨b, off, spot⟩ := a
    simp only at hs
    subst hs
    have hlz : len ≤ ss.length := by rw [hz]; split <;> omega
    have hlen : (((ss.take len).map fun s => s.data.toList).map strV).length = len := by simp; omega
    refine ⟨⟨_, (ss.take len).map fun s => s.data.toList⟩, rfl, .inr ⟨b, off, cap, by simp; omega, hlt, by simp; omega, fun j hj => ?_⟩, by simp; omega, fun s hs => ?_⟩
    · have hj : j < len := by simp at hj; omega
      have hc' := hcell j (by omega)
      rw [Addr.add_lit] at hc'
      rw [hc']
      simp [List.getElem?_eq_getElem (show j < ss.length by omega), strV]
      exact (str_toList _).symm
    · obtain ⟨s0, hs0, rfl⟩ := List.mem_map.1 hs
      rw [Array.length_toList]
      exact hw s0 (List.mem_of_mem_take hs0)
end
end Go.Proofs.Ytbbkailmlaffjaa
