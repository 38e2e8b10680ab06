/- Rows of one's own as objects: read, a cell written. -/
import Derived.Test.YtiihlbaajopllaaLkT
set_option linter.unusedVariables false
set_option maxRecDepth 100000
namespace Go.Proofs.Ytiihlbaajopllaa
open Go.RowKit

theorem OwnR.setC {w : World} {B : Nat} {T : TypeId} {sz : Nat} {n b c j : Nat} {cs : List Value} {x : Value} (h : OwnR w B T sz One (.slice (some ⟨b, 0, none⟩) n c) n cs) (hj : j < cs.length) (hx : One x) :
    ∃ row', w.setCell ⟨b, j, none⟩ x = w.setRow b row' ∧ OwnR (w.setRow b row') B T sz One (.slice (some ⟨b, 0, none⟩) n c) n (cs.set j x) := by
  obtain ⟨h0, ⟨hv, _⟩ | ⟨g, c', junk, hv, hB, hg, hc, hC⟩⟩ := h
  · cases hv
  · simp only [Value.slice.injEq, Option.some.injEq, Addr.mk.injEq, and_true, true_and] at hv
    obtain ⟨rfl, rfl⟩ := hv
    refine ⟨_, setCell_eq_setRow w b j _ T (0, 0) x hg, by rw [List.length_set]; exact h0, .inr ⟨b, c, junk, rfl, hB, ?_, by rw [List.length_set]; exact hc, fun u hu => ?_⟩⟩
    · rw [setRow_heap w b _ _ _ _ hg]
      congr 2
      apply Array.ext'
      simp [List.set_append_left _ _ hj]
    · rcases List.mem_append.1 hu with hu | hu
      · rcases List.mem_or_eq_of_mem_set hu with hu | rfl
        · exact hC u (List.mem_append_left _ hu)
        · exact hx
      · exact hC u (List.mem_append_right _ hu)
def ownK (T : TypeId) (o : Obj) : Prop := match o with
  | .cells _ t _ => t = T
  | _ => False
def ownOb (T : TypeId) (hT : T ≠ 98) (sz : Nat) (v : Value) (n : Nat) (cs : List Value) : Ob Zf where
  is := fun w S => OwnR w 0 T sz One v n cs ∧ ∀ b, v.ownBlock = some b → S b
  K := ownK T
  mutw := fun h k hd _ => ⟨h.1.mutO k fun b hb => hd b (h.2 b hb), h.2⟩
  mono := fun h k => ⟨h.1, fun b hb => k b (h.2 b hb)⟩
  trim := fun h => ⟨h.1, fun b hb => ⟨h.2 b hb, by obtain ⟨cs, hc⟩ := own_blk h.1 hb; exact ⟨_, hc, rfl⟩⟩⟩
  kz := fun o h hz => by
    cases o <;> simp only [ownK, Zf] at h hz
    exact hT (h.symm.trans hz)
theorem ownOb_nil (w : World) (T : TypeId) (hT : T ≠ 98) (sz : Nat) (S : Nat → Prop) : (ownOb T hT sz (.slice none 0 0) 0 []).is w S := ⟨OwnR.nil, fun b hb => by simp [Value.ownBlock] at hb⟩
section
variable {W w : World} {ds : List (Ob Zf)}
theorem OSt.ownNil (h : OSt W ds w) (T : TypeId) (hT : T ≠ 98) (sz : Nat) : OSt W (ownOb T hT sz (.slice none 0 0) 0 [] :: ds) w :=
  h.push (Ext.refl w) (R := fun _ => False) (ownOb_nil w T hT sz _) fun _ hi => hi.elim
theorem OSt.own {T : TypeId} {hT : T ≠ 98} {sz n : Nat} {v : Value} {cs : List Value} (h : OSt W ds w) (i : Nat) (hi : ds[i]? = some (ownOb T hT sz v n cs)) : OwnR w 0 T sz One v n cs := by
  obtain ⟨S, h1, _⟩ := h.pick hi
  exact h1.1
theorem OSt.setOwn {T : TypeId} {hT : T ≠ 98} {sz n b c j : Nat} {cs : List Value} {x : Value} (h : OSt W ds w) (i : Nat) (hi : ds[i]? = some (ownOb T hT sz (.slice (some ⟨b, 0, none⟩) n c) n cs)) (hj : j < cs.length) (hx : One x) :
    OSt W (ds.set i (ownOb T hT sz (.slice (some ⟨b, 0, none⟩) n c) n (cs.set j x))) (w.setCell ⟨b, j, none⟩ x) := by
  obtain ⟨S, h1, _, h3, _⟩ := h.pick hi
  obtain ⟨row', e, ho⟩ := OwnR.setC h1.1 hj hx
  rw [e]
  have hb : S b := h1.2 b (by simp [Value.ownBlock])
  exact h3 _ _ ⟨⟨ho, fun b' hb' => .inl (h1.2 b' hb')⟩, mut_setRow hb _⟩
theorem own_flat {w : World} {T : TypeId} {α : Type} {enc : α → List Value} {sz n c b : Nat} {l : List α} (h : OwnR w 0 T sz One (.slice (some ⟨b, 0, none⟩) n c) n (l.flatMap enc)) (he : ∀ x, (enc x).length = sz) (hl : l.length = n) {k : Nat} {x : α} (hk : l[k]? = some x) :
    b < w.heap.size ∧ (0 < sz → n ≤ c) ∧ (∀ i (hi : i < sz), w.cell? ⟨b, k * sz + i, none⟩ = (enc x)[i]?) ∧ (∀ o, w.frozen? ⟨b, o, none⟩ = false) := by
  have hkl := (List.getElem?_eq_some_iff.1 hk).1
  have h' := h
  obtain ⟨g, hg, -, hlt, hc, hj⟩ := h.cells (by omega)
  simp only [Option.some.injEq, Addr.mk.injEq, and_true] at hg
  subst hg
  refine ⟨hlt, hc, fun i hi => ?_, fun o => ?_⟩
  · have h1 := flat_at he l k i x hk hi
    have h2 : k * sz + i < (l.flatMap enc).length := by
      rw [flat_length he]
      have : (k + 1) * sz ≤ l.length * sz := Nat.mul_le_mul_right _ hkl
      rw [Nat.add_mul] at this
      omega
    rw [hj _ h2, ← h1, List.getElem?_eq_getElem h2]
  · obtain ⟨_, ⟨hv, _⟩ | ⟨g, c', junk, hv, hB, hg, _⟩⟩ := h'
    · cases hv
    · simp only [Value.slice.injEq, Option.some.injEq, Addr.mk.injEq, and_true, true_and] at hv
      obtain ⟨rfl, rfl⟩ := hv
      simp [World.frozen?, hg]
end
end Go.Proofs.Ytiihlbaajopllaa
