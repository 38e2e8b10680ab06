/- Generic: slices of structs, of numbers, of truth values among a law's arguments, slices among their fields too. No statement of its own. -/
import Derived.Test.YteahlnoonmfjhaaGen
import Derived.Test.YteahlnoonmfjhaaLiftB
import Derived.Deep.Matrix
set_option linter.unusedVariables false
namespace Go.Proofs.Yteahlnoonmfjhaa
open Go.RowKit Go.ChangeShapes Go.WideShapes Go.ChangeAt Go.Deep

theorem list_of {α : Type} {Q : Nat → α → Prop} : ∀ n, (∀ i, i < n → ∃ x, Q i x) → ∃ l : List α, l.length = n ∧ ∀ i x, l[i]? = some x → Q i x
  | 0, _ => ⟨[], rfl, fun i x h => by simp at h⟩
  | n + 1, h => by
    obtain ⟨l, hl, hq⟩ := list_of n fun i hi => h i (by omega)
    obtain ⟨x, hx⟩ := h n (by omega)
    refine ⟨l ++ [x], by simp [hl], fun i y hy => ?_⟩
    by_cases hi : i < l.length
    · rw [List.getElem?_append_left hi] at hy
      exact hq i y hy
    · rw [List.getElem?_append_right (by omega)] at hy
      have h1 := (List.getElem?_eq_some_iff.1 hy).1
      simp at h1
      obtain rfl : i = n := by omega
      rw [hl] at hy
      simp at hy
      subst hy
      exact hx
section
variable {H : Type} {enc' : TypeId × Value → H} {P : Program} {w : World} {base : Nat} {spare : Nat → Bool} {held : Bool}
theorem open_slice_fields {t e : TypeId} {fs : Array Field} {fuel : Nat} {cs : List Value} {x : DataW H × List MemPlace} (ht : P.underlying t = some (.slice e)) (he : P.underlying e = some (.struct fs))
    (hone : oneCellFields P fs = true) (hC : P.cellsOf e = fs.size) (h : DataW.trod enc' P w base spare held fuel t cs = some x) :
    (cs = [.slice none 0 0]) ∨
    ∃ (a : Addr) (len cap : Nat), cs = [.slice (some a) len cap] ∧ len ≤ cap ∧ cap ≤ maxLen ∧
      ∀ i, i < len → ∀ (j : Nat) (f : Field), fs[j]? = some f → ∃ (v : Value) (y : DataW H × List MemPlace) (n : Nat), w.cell? (a.add (i * fs.size + j)) = some v ∧ DataW.trod enc' P w base spare held n f.type [v] = some y := by
  rcases open_slice ht h with h0 | ⟨a, len, cap, m, n, D, Pl, hcs, hb, hl, hm, hmm, hx, hi⟩
  · exact .inl h0.1
  · refine .inr ⟨a, len, cap, hcs, hl, hm, fun i hil => ?_⟩
    obtain ⟨cs', hc, ht'⟩ := hi i (by rw [hmm]; split <;> omega)
    rw [hC] at hc
    obtain ⟨ys, n', hn', hy, hlen, hyl, hf⟩ := DataW.trod_struct he ht'
    obtain ⟨_, hcl, hat⟩ := World.cells?_some hc
    intro j f hj
    obtain ⟨ho, hk⟩ := hone_of hone j f hj
    have hjl : j < fs.size := (Array.getElem?_eq_some_iff.1 hj).1
    have hcell := hat j hjl
    have hv : cs'[j]? = some (cs'[j]'(by omega)) := List.getElem?_eq_getElem (by omega)
    have h1 := hf j f hj
    rw [ho, hk] at h1
    have hone' : (cs'.drop j).take 1 = [cs'[j]'(by omega)] := by
      rw [List.drop_eq_getElem_cons (by omega)]
      rfl
    rw [hone'] at h1
    have hys : ys[j]? = some (ys[j]'(by omega)) := List.getElem?_eq_getElem (by omega)
    refine ⟨_, _, _, ?_, h1.trans hys⟩
    rw [← Go.Deep.add_add, hcell, hv]
/-- Rows of structs of one-cell fields. -/
theorem open_rows {α : Type} {enc : α → List Value} {R : α → Prop} {t e : TypeId} {fs : Array Field} {fuel : Nat} {v : Value} {x : DataW H × List MemPlace} (ht : P.underlying t = some (.slice e)) (he : P.underlying e = some (.struct fs))
    (hone : oneCellFields P fs = true) (hC : P.cellsOf e = fs.size) (hne : 0 < fs.size) (hen : ∀ x, (enc x).length = fs.size)
    (hk : ∀ cell : Nat → Value, (∀ (j : Nat) (f : Field), fs[j]? = some f → ∃ (y : DataW H × List MemPlace) (n : Nat), DataW.trod enc' P w base spare held n f.type [cell j] = some y) → ∃ x, (∀ j, j < fs.size → (enc x)[j]? = some (cell j)) ∧ R x)
    (h : DataW.trod enc' P w base spare held fuel t [v] = some x) : ∃ l : List α, RR w fs.size v l.length (l.flatMap enc) ∧ (∀ x ∈ l, R x) ∧ l.length ≤ maxLen := by
  rcases open_slice_fields ht he hone hC h with h0 | ⟨a, len, cap, hcs, hl, hm, hi⟩
  · simp only [List.cons.injEq, and_true] at h0
    subst h0
    exact ⟨[], ⟨by simp, .inl ⟨none, 0, rfl, rfl⟩⟩, fun x h => by simp at h, Nat.zero_le _⟩
  · simp only [List.cons.injEq, and_true] at hcs
    subst hcs
    obtain ⟨l, hll, hq⟩ := list_of (Q := fun i x => (∀ j, j < fs.size → w.cell? (a.add (i * fs.size + j)) = (enc x)[j]?) ∧ R x) len fun i hil => by
      have h1 := hi i hil
      have h2 : ∀ j : Nat, ∃ v : Value, ∀ f, fs[j]? = some f → w.cell? (a.add (i * fs.size + j)) = some v ∧ ∃ (y : DataW H × List MemPlace) (n : Nat), DataW.trod enc' P w base spare held n f.type [v] = some y := fun j => by
        cases hf : fs[j]? with
        | none => exact ⟨undef, fun f h => by cases h⟩
        | some f =>
          obtain ⟨v, y, n, h3, h4⟩ := h1 j f hf
          exact ⟨v, fun f' h => by cases h; exact ⟨h3, y, n, h4⟩⟩
      obtain ⟨x, hx, hR⟩ := hk (fun j => (h2 j).choose) fun j f hf => ((h2 j).choose_spec f hf).2
      refine ⟨x, fun j hj => ?_, hR⟩
      rw [hx j hj]
      exact ((h2 j).choose_spec fs[j] (Array.getElem?_eq_getElem hj)).1
    subst hll
    have hlen := flat_length hen l
    refine ⟨l, ⟨hlen, ?_⟩, fun x hx => ?_, by omega⟩
    · by_cases h0 : l.length = 0
      · exact .inl ⟨some a, cap, by rw [h0], h0⟩
      · obtain ⟨b, off, spot⟩ := a
        have hx0 : l[0]? = some l[0] := List.getElem?_eq_getElem (by omega)
        have hc0 := (hq 0 _ hx0).1 0 hne
        rw [List.getElem?_eq_getElem (by rw [hen]; exact hne)] at hc0
        have hs : spot = none := by simpa [Addr.add] using World.cell?_spot hc0
        subst hs
        rw [Addr.add_lit] at hc0
        have hlt : b < w.heap.size := by
          unfold World.cell? at hc0
          cases hb : w.heap[b]? with
          | none => simp [hb] at hc0
          | some o => exact (Array.getElem?_eq_some_iff.1 hb).1
        refine .inr ⟨b, off, cap, rfl, hlt, hl, fun j hj => ?_⟩
        have hjd := Nat.div_add_mod j fs.size
        have hml := Nat.mod_lt j hne
        have hdl : j / fs.size < l.length := by
          rw [hlen] at hj
          exact Nat.div_lt_of_lt_mul (by rw [Nat.mul_comm]; exact hj)
        have hxk : l[j / fs.size]? = some l[j / fs.size] := List.getElem?_eq_getElem hdl
        have h1 := (hq _ _ hxk).1 (j % fs.size) hml
        rw [Addr.add_lit, Nat.mul_comm, hjd] at h1
        rw [h1]
        have h2 := flat_at hen l (j / fs.size) (j % fs.size) _ hxk hml
        rw [Nat.mul_comm, hjd, List.getElem?_eq_getElem hj] at h2
        exact h2.symm
    · obtain ⟨i, hil, rfl⟩ := List.getElem_of_mem hx
      exact (hq i _ (List.getElem?_eq_getElem hil)).2
end
end Go.Proofs.Yteahlnoonmfjhaa
