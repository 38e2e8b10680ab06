/- Results, by the document: Hear. -/
import Derived.Test.YteahlnoonmfjhaaRsQ
import Derived.Test.YteahlnoonmfjhaaRsP
set_option linter.unusedVariables false
set_option maxRecDepth 100000
namespace Go.Proofs.Yteahlnoonmfjhaa
open Go.RowKit

/-- The document's reader of results. -/
structure RHd (w wr : World) (gr ga g4 B0 : Nat) (st : St) (x : RsT) (rv : Value) : Prop where
  rd : Rd 196 wr gr st
  ha : wr.heap[ga]? = some (.cells (rsC x rv).toArray 41 (0, 0))
  h4 : wr.heap[g4]? = some (.cells (rsC rs0 (.slice none 0 0)).toArray 41 (0, 0))
  en : EnO wr B0 rv x.ents
  ne : gr ≠ ga ∧ gr ≠ g4 ∧ ga ≠ g4
  bel : Below w.heap.size w wr
  lb : w.heap.size ≤ gr ∧ w.heap.size ≤ ga ∧ w.heap.size ≤ g4
  b0 : gr < B0 ∧ ga < B0 ∧ g4 < B0 ∧ B0 ≤ wr.heap.size
section
variable {w wr w' : World} {gr ga g4 B0 : Nat} {st st' : St} {x x' : RsT} {rv rv' : Value}
theorem RHd.read (h : RHd w wr gr ga g4 B0 st x rv) (hr : Rd 196 w' gr st') (k : But gr wr w') : RHd w w' gr ga g4 B0 st' x rv :=
  { rd := hr, ha := (k.block ga (heap_lt h.ha) (by have := h.ne; simp; omega)).trans h.ha, h4 := (k.block g4 (heap_lt h.h4) (by have := h.ne; simp; omega)).trans h.h4, en := h.en.grown k h.b0.1, ne := h.ne, bel := h.bel.trans (k.below h.lb.1 h.bel.size), lb := h.lb, b0 := by have h1 := h.b0; have h2 := k.size; omega }
theorem RHd.ext (h : RHd w wr gr ga g4 B0 st x rv) (k : Ext wr w') : RHd w w' gr ga g4 B0 st x rv := h.read (h.rd.ext k) (But.of k)
theorem RHd.lift (h : RHd w wr gr ga g4 B0 st x rv) : ∀ b, rv.ownBlock = some b → B0 ≤ b ∧ b < wr.heap.size := fun b hb => own_lt h.en hb
theorem RHd.fill (h : RHd w wr gr ga g4 B0 st x rv) (he : x'.ents = x.ents) (hr : ∀ j : Nat, (rsC x' rv).toArray[j]? = (rsC x rv).toArray[j]? ∨ ∃ u, (rsC x rv).toArray[j]? = some u ∧ NoB' u) : RHd w (wr.setRow ga (rsC x' rv).toArray) gr ga g4 B0 st x' rv :=
  { rd := h.rd.setNB h.ne.1 h.ha hr, ha := setRow_heap _ _ _ _ _ _ h.ha, h4 := (setRow_other _ _ _ _ h.ne.2.2.symm).trans h.h4, en := by rw [he]; exact h.en.set h.ha (by decide), ne := h.ne, bel := below_setRow h.bel h.lb.2.1 _, lb := h.lb, b0 := by have := h.b0; simpa [World.setRow] using this }
theorem RHd.fillB (h : RHd w wr gr ga g4 B0 st x rv) (he : x'.ents = x.ents) (hr : ∀ j : Nat, (rsC x' rv).toArray[j]? = (rsC x rv).toArray[j]? ∨ (∃ u, (rsC x rv).toArray[j]? = some u ∧ NoB' u) ∨ ∃ y, (rsC x' rv).toArray[j]? = some (bv y)) : ∃ s', SameH st s' ∧ RHd w (wr.setRow ga (rsC x' rv).toArray) gr ga g4 B0 s' x' rv := by
  obtain ⟨s', hs, hrd⟩ := h.rd.setB h.ne.1 h.ha hr
  exact ⟨s', hs, { rd := hrd, ha := setRow_heap _ _ _ _ _ _ h.ha, h4 := (setRow_other _ _ _ _ h.ne.2.2.symm).trans h.h4, en := by rw [he]; exact h.en.set h.ha (by decide), ne := h.ne, bel := below_setRow h.bel h.lb.2.1 _, lb := h.lb, b0 := by have := h.b0; simpa [World.setRow] using this }⟩
/-- The entries are put anew. -/
theorem RHd.fillE {A : Option Addr} {n c : Nat} (h : RHd w wr gr ga g4 B0 st x rv) (hn : NoB' rv) (ho : EnO wr B0 (.slice A n c) x'.ents) (hx : (rsC x' (.slice A n c)).toArray = (rsC x rv).toArray.setIfInBounds 17 (.slice A n c)) : RHd w (wr.setRow ga (rsC x' (.slice A n c)).toArray) gr ga g4 B0 st x' (.slice A n c) :=
  { rd := h.rd.setNB h.ne.1 h.ha (by rw [hx]; exact set_nb (u := rv) rfl hn), ha := setRow_heap _ _ _ _ _ _ h.ha, h4 := (setRow_other _ _ _ _ h.ne.2.2.symm).trans h.h4, en := ho.set h.ha (by decide), ne := h.ne, bel := below_setRow h.bel h.lb.2.1 _, lb := h.lb, b0 := by have := h.b0; simpa [World.setRow] using this }
/-- A block aside is written. -/
theorem RHd.aside (h : RHd w wr gr ga g4 B0 st x rv) {g : Nat} {T : TypeId} {r r' : Array Value} (hg : wr.heap[g]? = some (.cells r T (0, 0))) (hW : w.heap.size ≤ g) (hne : g ≠ gr ∧ g ≠ ga ∧ g ≠ g4) (ho : ∀ b, rv.ownBlock = some b → b ≠ g) (hr : ∀ j : Nat, r'[j]? = r[j]? ∨ ∃ u, r[j]? = some u ∧ NoB' u) : RHd w (wr.setRow g r') gr ga g4 B0 st x rv := by
  obtain ⟨n1, n2, n3⟩ := hne
  exact { rd := h.rd.setNB n1.symm hg hr, ha := (setRow_other _ _ _ _ n2.symm).trans h.ha, h4 := (setRow_other _ _ _ _ n3.symm).trans h.h4, en := h.en.mutO (mut_setRow (S := fun i => i = g) rfl r') (fun b hb e => ho b hb e), ne := h.ne, bel := below_setRow h.bel hW _, lb := h.lb, b0 := by have := h.b0; simpa [World.setRow] using this }
theorem RHd.grown (h : RHd w wr gr ga g4 B0 st x rv) {A : Option Addr} {n c : Nat} {l : List EnT} (k : wr.grownBy w' rv.ownBlock) (ho : EnO w' B0 (.slice A n c) l) (hb : Below B0 wr w') : Rd 196 w' gr st ∧ w'.heap[ga]? = some (.cells (rsC x rv).toArray 41 (0, 0)) ∧ w'.heap[g4]? = some (.cells (rsC rs0 (.slice none 0 0)).toArray 41 (0, 0)) := by
  have hl := h.lift
  have key : ∀ (b : Nat) (o : Obj), wr.heap[b]? = some o → b < B0 → w'.heap[b]? = some o := fun b o hb hn => (k.block b (heap_lt hb) (by intro e; have := hl b e.symm; omega)).trans hb
  obtain ⟨A, c, h1, h2⟩ := h.rd
  exact ⟨⟨A, c, key _ _ h1 h.b0.1, h2.grown k (fun b o u hb hu => (h.en.nob b o u hb hu).1)⟩, key _ _ h.ha h.b0.2.1, key _ _ h.h4 h.b0.2.2.1⟩
/-- The entries are appended to. -/
theorem RHd.app (h : RHd w wr gr ga g4 B0 st x rv) {A : Option Addr} {n c : Nat} (k : wr.grownBy w' rv.ownBlock) (hn : NoB' rv) (ho : EnO w' B0 (.slice A n c) x'.ents) (hb : Below B0 wr w') (hx : (rsC x' (.slice A n c)).toArray = (rsC x rv).toArray.setIfInBounds 17 (.slice A n c)) : RHd w (w'.setRow ga (rsC x' (.slice A n c)).toArray) gr ga g4 B0 st x' (.slice A n c) := by
  obtain ⟨hr, ha, hf⟩ := h.grown k ho hb
  exact { rd := hr.setNB h.ne.1 ha (by rw [hx]; exact set_nb (u := rv) rfl hn), ha := setRow_heap _ _ _ _ _ _ ha, h4 := (setRow_other _ _ _ _ h.ne.2.2.symm).trans hf, en := ho.set ha (by decide), ne := h.ne, bel := below_setRow (h.bel.trans (hb.mono (by have h1 := h.lb; have h2 := h.b0; omega))) h.lb.2.1 _, lb := h.lb, b0 := by have h1 := h.b0; have h2 := hb.size; have h3 : (w'.setRow ga (rsC x' (.slice A n c)).toArray).heap.size = w'.heap.size := (by simp [World.setRow]); omega }
end
theorem rTell69 {p : Nat} (hp : p < 19) : ∀ k : Nat, (rTellL (p : Int))[k]? = some 69 → k = 0 := by
  have key : ∀ i : Nat, i < 19 → (rTellL (i : Int))[1]? ≠ some 69 ∧ (rTellL (i : Int))[2]? ≠ some 69 := by
    intro i hi
    have h : i = 0 ∨ i = 1 ∨ i = 2 ∨ i = 3 ∨ i = 4 ∨ i = 5 ∨ i = 6 ∨ i = 7 ∨ i = 8 ∨ i = 9 ∨ i = 10 ∨ i = 11 ∨ i = 12 ∨ i = 13 ∨ i = 14 ∨ i = 15 ∨ i = 16 ∨ i = 17 ∨ i = 18 := by omega
    rcases h with rfl | rfl | rfl | rfl | rfl | rfl | rfl | rfl | rfl | rfl | rfl | rfl | rfl | rfl | rfl | rfl | rfl | rfl | rfl <;> decide
  intro k hk
  have hl := (rTellL_mem hp).2
  have hkl := (List.getElem?_eq_some_iff.1 hk).1
  match k, hk with
  | 0, _ => rfl
  | 1, hk => exact absurd hk (key p hp).1
  | 2, hk => exact absurd hk (key p hp).2
  | k + 3, _ => omega
theorem rTell65 {p : Nat} (hp : p < 19) : ∀ k : Nat, (rTellL (p : Int))[k]? = some 65 → k + 1 = (rTellL (p : Int)).length := by
  have key : ∀ i : Nat, i < 19 → ((rTellL (i : Int))[0]? = some 65 → 1 = (rTellL (i : Int)).length) ∧ ((rTellL (i : Int))[1]? = some 65 → 2 = (rTellL (i : Int)).length) ∧ ((rTellL (i : Int))[2]? = some 65 → 3 = (rTellL (i : Int)).length) := by
    intro i hi
    have h : i = 0 ∨ i = 1 ∨ i = 2 ∨ i = 3 ∨ i = 4 ∨ i = 5 ∨ i = 6 ∨ i = 7 ∨ i = 8 ∨ i = 9 ∨ i = 10 ∨ i = 11 ∨ i = 12 ∨ i = 13 ∨ i = 14 ∨ i = 15 ∨ i = 16 ∨ i = 17 ∨ i = 18 := by omega
    rcases h with rfl | rfl | rfl | rfl | rfl | rfl | rfl | rfl | rfl | rfl | rfl | rfl | rfl | rfl | rfl | rfl | rfl | rfl | rfl <;> decide
  intro k hk
  have hl := (rTellL_mem hp).2
  have hkl := (List.getElem?_eq_some_iff.1 hk).1
  match k, hk with
  | 0, hk => exact (key p hp).1 hk
  | 1, hk => exact (key p hp).2.1 hk
  | 2, hk => exact (key p hp).2.2 hk
  | k + 3, _ => omega
end Go.Proofs.Yteahlnoonmfjhaa
