/- Arguments: how a reader of fields and what it fills lie in memory; its handle. -/
import Derived.Test.YteahlnoonmfjhaaAgE
import Derived.Test.YteahlnoonmfjhaaMx
import Derived.Test.YteahlnoonmfjhaaCalmS
set_option linter.unusedVariables false
set_option maxRecDepth 100000
namespace Go.Proofs.Yteahlnoonmfjhaa
open Go.RowKit

theorem Mut.thenM {S R : Nat → Prop} {a b c : World} (h : Mut S a b) (k : Mut R b c) (hR : ∀ i, R i → a.heap.size ≤ i) : Mut S a c :=
  ⟨k.os.trans h.os, k.tape.trans h.tape, k.output.trans h.output, Nat.le_trans h.size k.size, fun i hi hn => (k.block i (Nat.lt_of_lt_of_le hi h.size) fun hr => by have := hR i hr; omega).trans (h.block i hi hn)⟩
def NoB' (v : Value) : Prop := ∀ x, v ≠ bv x
theorem RS.setNB {w : World} {v : Value} {l : List UInt8} {g : Nat} {T : TypeId} {row row' : Array Value} (h : RS w v l) (hg : w.heap[g]? = some (.cells row T (0, 0))) (hr : ∀ j : Nat, row'[j]? = row[j]? ∨ ∃ u, row[j]? = some u ∧ NoB' u) : RS (w.setRow g row') v l := by
  rcases h with h | ⟨b, off, c, rfl, hb, hc, hj⟩
  · exact .inl h
  · refine .inr ⟨b, off, c, rfl, by simpa [World.setRow] using hb, hc, fun j hjl => ?_⟩
    have h1 := hj j hjl
    by_cases e : b = g
    · subst e
      rw [cell_of_row _ _ _ _ _ _ hg] at h1
      rw [cell_of_row _ _ _ _ _ _ (setRow_heap w b row row' T (0, 0) hg)]
      rcases hr (off + j) with h2 | ⟨u, h2, h3⟩
      · rw [h2]; exact h1
      · rw [h2, bvs_get hjl] at h1
        simp only [Option.some.injEq] at h1
        exact absurd h1 (h3 _)
    · rw [← h1]
      exact World.cell?_of_block (setRow_other w g b row' e)
theorem Rd.setNB {w : World} {T T' : TypeId} {gr g : Nat} {st : St} {row row' : Array Value} (h : Rd T w gr st) (hne : gr ≠ g) (hg : w.heap[g]? = some (.cells row T' (0, 0))) (hr : ∀ j : Nat, row'[j]? = row[j]? ∨ ∃ u, row[j]? = some u ∧ NoB' u) : Rd T (w.setRow g row') gr st := by
  obtain ⟨A, c, h1, h2⟩ := h
  exact ⟨A, c, (setRow_other w g gr row' hne).trans h1, h2.setNB hg hr⟩
theorem set_nb {row : Array Value} {o : Nat} {x u : Value} (hu : row[o]? = some u) (hn : NoB' u) : ∀ j : Nat, (row.setIfInBounds o x)[j]? = row[j]? ∨ ∃ u, row[j]? = some u ∧ NoB' u := fun j => by
  by_cases e : j = o
  · subst e; exact .inr ⟨u, hu, hn⟩
  · left; exact Array.getElem?_setIfInBounds_ne (fun h => e h.symm)
theorem nb_i64 (n : Int) : NoB' (.int .i64 n) := fun x h => by simp [bv] at h
theorem nb_u64 (n : Int) : NoB' (.int .u64 n) := fun x h => by simp [bv] at h
theorem nb_str (s : ByteArray) : NoB' (.string s) := fun x h => by simp [bv] at h
theorem nb_bool (s : Bool) : NoB' (.bool s) := fun x h => by simp [bv] at h
theorem nb_ptr (s : Option Addr) : NoB' (.pointer s) := fun x h => by simp [bv] at h
/-- A reader of fields: its reader in block gr, itself in gf, what it fills in ga; b2, b3 hold their pointers. All since W0. -/
structure RdS (W0 w : World) (gr gf ga b2 b3 : Nat) (Ta Tp : TypeId) (st : St) (bad : Bool) (row : Array Value) : Prop where
  rd : Rd 192 w gr st
  hf : w.heap[gf]? = some (.cells #[.pointer (some ⟨gr, 0, none⟩), .bool bad] 145 (0, 0))
  ha : w.heap[ga]? = some (.cells row Ta (0, 0))
  h2 : w.heap[b2]? = some (.cells #[.pointer (some ⟨gf, 0, none⟩)] 193 (0, 0))
  h3 : w.heap[b3]? = some (.cells #[.pointer (some ⟨ga, 0, none⟩)] Tp (0, 0))
  ne : gr ≠ gf ∧ gr ≠ ga ∧ gf ≠ ga ∧ b2 ≠ gr ∧ b2 ≠ gf ∧ b2 ≠ ga ∧ b3 ≠ gr ∧ b3 ≠ gf ∧ b3 ≠ ga
  mu : Mut (fun i => i = gr ∨ i = gf ∨ i = ga) W0 w
section
variable {W0 w w' : World} {gr gf ga b2 b3 : Nat} {Ta Tp : TypeId} {st st' : St} {bad : Bool} {row : Array Value}
theorem RdS.ext (h : RdS W0 w gr gf ga b2 b3 Ta Tp st bad row) (k : Ext w w') : RdS W0 w' gr gf ga b2 b3 Ta Tp st bad row :=
  { rd := h.rd.ext k, hf := Ext.blk k h.hf, ha := Ext.blk k h.ha, h2 := Ext.blk k h.h2, h3 := Ext.blk k h.h3, ne := h.ne, mu := h.mu.trans (Mut.of_ext k) }
theorem But.mut {g : Nat} {S : Nat → Prop} {w w' : World} (k : But g w w') (h : S g) : Mut S w w' := Mut.of_grown k fun b hb => by
  have : g = b := by simpa using hb
  exact this ▸ h
/-- The reader has read. -/
theorem RdS.read (h : RdS W0 w gr gf ga b2 b3 Ta Tp st bad row) (hr : Rd 192 w' gr st') (k : But gr w w') : RdS W0 w' gr gf ga b2 b3 Ta Tp st' bad row := by
  obtain ⟨n1, n2, n3, n4, n5, n6, n7, n8, n9⟩ := h.ne
  have key : ∀ (b : Nat) (o : Obj), w.heap[b]? = some o → b ≠ gr → w'.heap[b]? = some o := fun b o hb hn => (k.block b (heap_lt hb) (by simpa using hn)).trans hb
  exact { rd := hr, hf := key _ _ h.hf n1.symm, ha := key _ _ h.ha n2.symm, h2 := key _ _ h.h2 n4, h3 := key _ _ h.h3 n7, ne := h.ne, mu := h.mu.trans (But.mut k (.inl rfl)) }
/-- What it fills is written, at cells that hold no bytes. -/
theorem RdS.fill (h : RdS W0 w gr gf ga b2 b3 Ta Tp st bad row) (row' : Array Value) (hr : ∀ j : Nat, row'[j]? = row[j]? ∨ ∃ u, row[j]? = some u ∧ NoB' u) : RdS W0 (w.setRow ga row') gr gf ga b2 b3 Ta Tp st bad row' := by
  obtain ⟨n1, n2, n3, n4, n5, n6, n7, n8, n9⟩ := h.ne
  exact { rd := h.rd.setNB n2 h.ha hr, hf := (setRow_other _ _ _ _ n3).trans h.hf, ha := setRow_heap _ _ _ _ _ _ h.ha, h2 := (setRow_other _ _ _ _ n6).trans h.h2, h3 := (setRow_other _ _ _ _ n9).trans h.h3, ne := h.ne, mu := h.mu.trans (mut_setRow (S := fun i => i = gr ∨ i = gf ∨ i = ga) (.inr (.inr rfl)) _) }
/-- It is bad. -/
theorem RdS.spoil (h : RdS W0 w gr gf ga b2 b3 Ta Tp st bad row) (b : Bool) : RdS W0 (w.setRow gf #[.pointer (some ⟨gr, 0, none⟩), .bool b]) gr gf ga b2 b3 Ta Tp st b row := by
  obtain ⟨n1, n2, n3, n4, n5, n6, n7, n8, n9⟩ := h.ne
  have hnb : ∀ j : Nat, (#[.pointer (some ⟨gr, 0, none⟩), .bool b] : Array Value)[j]? = (#[.pointer (some ⟨gr, 0, none⟩), .bool bad] : Array Value)[j]? ∨ ∃ u, (#[.pointer (some ⟨gr, 0, none⟩), .bool bad] : Array Value)[j]? = some u ∧ NoB' u := fun j => by
    match j with
    | 0 => exact .inl rfl
    | 1 => exact .inr ⟨_, rfl, nb_bool _⟩
    | j + 2 => exact .inl (by simp)
  exact { rd := h.rd.setNB n1 h.hf hnb, hf := setRow_heap _ _ _ _ _ _ h.hf, ha := (setRow_other _ _ _ _ n3.symm).trans h.ha, h2 := (setRow_other _ _ _ _ n5).trans h.h2, h3 := (setRow_other _ _ _ _ n8).trans h.h3, ne := h.ne, mu := h.mu.trans (mut_setRow (S := fun i => i = gr ∨ i = gf ∨ i = ga) (.inr (.inl rfl)) _) }
/-- A block aside is written. -/
theorem RdS.aside (h : RdS W0 w gr gf ga b2 b3 Ta Tp st bad row) {g : Nat} {T : TypeId} {r r' : Array Value} (hg : w.heap[g]? = some (.cells r T (0, 0))) (hW : W0.heap.size ≤ g) (hne : g ≠ gr ∧ g ≠ gf ∧ g ≠ ga ∧ g ≠ b2 ∧ g ≠ b3) (hr : ∀ j : Nat, r'[j]? = r[j]? ∨ ∃ u, r[j]? = some u ∧ NoB' u) : RdS W0 (w.setRow g r') gr gf ga b2 b3 Ta Tp st bad row := by
  obtain ⟨n1, n2, n3, n4, n5⟩ := hne
  exact { rd := h.rd.setNB n1.symm hg hr, hf := (setRow_other _ _ _ _ n2.symm).trans h.hf, ha := (setRow_other _ _ _ _ n3.symm).trans h.ha, h2 := (setRow_other _ _ _ _ n4.symm).trans h.h2, h3 := (setRow_other _ _ _ _ n5.symm).trans h.h3, ne := h.ne, mu := h.mu.thenM (mut_setRow (S := fun i => i = g) rfl r') (fun i hi => by omega) }
end
end Go.Proofs.Yteahlnoonmfjhaa
