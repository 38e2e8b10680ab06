/- Walks of package xdr, that read: readers; NewReader, spoil, take. -/
import Derived.Test.YteahlnoonmfjhaaXdrD
import Derived.Lib.SliceRun
set_option linter.unusedVariables false
set_option maxRecDepth 100000
namespace Go.Proofs.Yteahlnoonmfjhaa
open Go.RowKit

/-- All of w is in w', but block g may have changed. -/
def But (g : Nat) (w w' : World) : Prop := w.grownBy w' (some g)
theorem But.refl (g : Nat) (w : World) : But g w w := ⟨rfl, rfl, rfl, Nat.le_refl _, fun _ _ _ => rfl⟩
theorem But.trans {g : Nat} {a b c : World} (h : But g a b) (k : But g b c) : But g a c :=
  ⟨k.os.trans h.os, k.tape.trans h.tape, k.output.trans h.output, Nat.le_trans h.size k.size, fun i hi hne => (k.block i (Nat.lt_of_lt_of_le hi h.size) hne).trans (h.block i hi hne)⟩
theorem But.of {g : Nat} {w w' : World} (h : Ext w w') : But g w w' := ⟨h.os, h.tape, h.output, h.size, fun i hi _ => h.block i hi⟩
theorem But.below {g B : Nat} {w w' : World} (h : But g w w') (hB : B ≤ g) (hBw : B ≤ w.heap.size) : Below B w w' :=
  ⟨h.os, h.tape, h.output, h.size, fun i hi => h.block i (by omega) (by simp; omega)⟩
theorem But.cell {g : Nat} {w w' : World} (h : But g w w') {k o : Nat} (hk : k < w.heap.size) (hne : k ≠ g) : w'.cell? ⟨k, o, none⟩ = w.cell? ⟨k, o, none⟩ :=
  World.cell?_of_block (h.block k hk (by simpa using hne))

/-- The rest of a reader, that is not bad: its bytes; none: bad. -/
abbrev St := Option (List UInt8)
def St.l (s : St) : List UInt8 := s.getD []

/-- A reader in block g. -/
def Rd (T : TypeId) (w : World) (g : Nat) (s : St) : Prop :=
  ∃ A c, w.heap[g]? = some (.cells #[.slice A s.l.length c, .bool s.isNone] T (0, 0)) ∧ RS w (.slice A s.l.length c) s.l

theorem RS.but {w w' : World} {g : Nat} {v a : Value} {b : Bool} {l : List UInt8} {T : TypeId} {A : Option Addr} {n c : Nat} (h : RS w v l) (k : But g w w') (hg : w.heap[g]? = some (.cells #[.slice A n c, .bool b] T (0, 0))) : RS w' v l := by
  rcases h with h | ⟨b', off, c', rfl, hb, hc, hj⟩
  · exact .inl h
  · refine .inr ⟨b', off, c', rfl, Nat.lt_of_lt_of_le hb k.size, hc, fun j hjl => ?_⟩
    have hne : b' ≠ g := by
      rintro rfl
      have h1 := hj j hjl
      rw [cell_of_row _ _ _ _ _ _ hg, bvs_get hjl] at h1
      match hoj : off + j, h1 with
      | 0, h1 => simp [bv] at h1
      | 1, h1 => simp [bv] at h1
      | m + 2, h1 => simp at h1
    exact (k.cell hb hne).trans (hj j hjl)
theorem Rd.lt {T : TypeId} {w : World} {g : Nat} {s : St} (h : Rd T w g s) : g < w.heap.size := by
  obtain ⟨A, c, hg, _⟩ := h
  exact (Array.getElem?_eq_some_iff.1 hg).1
theorem Rd.ext {T : TypeId} {w w' : World} {g : Nat} {s : St} (h : Rd T w g s) (k : Ext w w') : Rd T w' g s := by
  have hl := h.lt
  obtain ⟨A, c, hg, hr⟩ := h
  exact ⟨A, c, (k.block g hl).trans hg, hr.ext k⟩
/-- A reader stays what it is when another block changes, if that is a reader's too. -/
theorem Rd.but {T T' : TypeId} {w w' : World} {g g' : Nat} {s s' : St} (h : Rd T w g s) (h' : Rd T' w g' s') (hne : g ≠ g') (k : But g' w w') : Rd T w' g s := by
  have hl := h.lt
  obtain ⟨A, c, hg, hr⟩ := h
  obtain ⟨A', c', hg', _⟩ := h'
  exact ⟨A, c, (k.block g hl (by simpa using hne)).trans hg, hr.but (a := .bool true) k hg'⟩
/-- Its two cells written anew. -/
theorem Rd.set {T : TypeId} {w : World} {g : Nat} {s s' : St} {v : Value} {b : Bool} (h : Rd T w g s) (hv : RS w v s'.l) (hb : b = s'.isNone) : Rd T (w.setRow g #[v, .bool b]) g s' ∧ But g w (w.setRow g #[v, .bool b]) := by
  obtain ⟨A, c, hg, _⟩ := h
  have hbut : But g w (w.setRow g #[v, .bool b]) := ⟨rfl, rfl, rfl, by simp [World.setRow], fun i _ hne => setRow_other w g i _ (by simpa using hne)⟩
  obtain ⟨A', c', rfl⟩ := hv.form
  subst hb
  exact ⟨⟨A', c', setRow_heap _ _ _ _ _ _ hg, hv.but (a := .bool true) hbut hg⟩, hbut⟩

/-- A block of two cells. -/
theorem blk2 {w : World} {g : Nat} {T : TypeId} {a b : Value} (h : w.heap[g]? = some (.cells #[a, b] T (0, 0))) :
    w.cell? ⟨g, 0, none⟩ = some a ∧ w.cell? ⟨g, 1, none⟩ = some b ∧ w.frozen? ⟨g, 0, none⟩ = false ∧ w.frozen? ⟨g, 1, none⟩ = false ∧ g < w.heap.size :=
  ⟨by simp [World.cell?, h], by simp [World.cell?, h], by simp [World.frozen?, h], by simp [World.frozen?, h], (Array.getElem?_eq_some_iff.1 h).1⟩
theorem blk2_st0 {w : World} {g : Nat} {T : TypeId} {a b : Value} (x : Value) (h : w.heap[g]? = some (.cells #[a, b] T (0, 0))) : w.setCell ⟨g, 0, none⟩ x = w.setRow g #[x, b] := by
  rw [setCell_eq_setRow w g 0 _ T (0, 0) _ h]; rfl
theorem blk2_st1 {w : World} {g : Nat} {T : TypeId} {a b : Value} (y : Value) (h : w.heap[g]? = some (.cells #[a, b] T (0, 0))) : w.setCell ⟨g, 1, none⟩ y = w.setRow g #[a, y] := by
  rw [setCell_eq_setRow w g 1 _ T (0, 0) _ h]; rfl
theorem blk2_st10 {w : World} {g : Nat} {T : TypeId} {a b : Value} (x y : Value) (h : w.heap[g]? = some (.cells #[a, b] T (0, 0))) : (w.setCell ⟨g, 1, none⟩ y).setCell ⟨g, 0, none⟩ x = w.setRow g #[x, y] := by
  rw [blk2_st1 y h, blk2_st0 x (setRow_heap _ _ _ _ _ _ h), setRow_setRow]
end Go.Proofs.Yteahlnoonmfjhaa
