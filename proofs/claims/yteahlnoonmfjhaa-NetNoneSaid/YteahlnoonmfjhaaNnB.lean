/- Net: a map of counts among the objects. -/
import Derived.Test.YteahlnoonmfjhaaMo
set_option linter.unusedVariables false
set_option maxRecDepth 100000
namespace Go.Proofs.Yteahlnoonmfjhaa
open Go.RowKit

def mapOb (b : Nat) (F : Pk → Option Value) : Ob Z0 where
  is := fun w S => MapK Try.prog 25 pkV w b F ∧ S b
  K := fun o => match o with
    | .map _ _ => True
    | _ => False
  mutw := fun h k hd _ => ⟨h.1.mut k (hd b h.2), h.2⟩
  mono := fun h k => ⟨h.1, k _ h.2⟩
  trim := fun h => ⟨h.1, h.2, by obtain ⟨es, c, hb, _⟩ := h.1; exact ⟨_, hb, trivial⟩⟩
  kz := fun _ _ h => h
section
variable {W w : World} {ds : List (Ob Z0)} {b : Nat} {F : Pk → Option Value}
theorem OSt.mapNew (h : OSt W ds w) : OSt W (mapOb w.heap.size (fun _ => none) :: ds) (w.alloc (.map #[] 0)) :=
  h.push (extAl w _) (R := fun i => i = w.heap.size) ⟨mapK_made w, rfl⟩ fun i hi => Nat.le_of_eq hi.symm
theorem OSt.mapSet (i : Nat) (h : OSt W ds w) (hi : ds[i]? = some (mapOb b F)) {p : Pk} (hk : KeyV Try.prog 25 (pkV p)) (v : Value) :
    ∃ w', (Instr.mapUpdate 83 (.map (some b)) (pkV p) v).run Try.prog w = .ok () w' ∧ OSt W (ds.set i (mapOb b (updK F p v))) w' := by
  obtain ⟨S, h1, _, h3, _⟩ := h.pick hi
  obtain ⟨w', hr, hm, hg⟩ := h1.1.update pkV_inj pk_law Try.underlying83 hk v
  exact ⟨w', hr, h3 _ _ ⟨⟨hm, .inl h1.2⟩, Mut.of_grown hg fun x hx => by simp at hx; subst hx; exact h1.2⟩⟩
theorem OSt.mapGet (i : Nat) (h : OSt W ds w) (hi : ds[i]? = some (mapOb b F)) {p : Pk} (hk : KeyV Try.prog 25 (pkV p)) :
    (Instr.lookup 83 (.map (some b)) (pkV p) false).run Try.prog w = .ok ((F p).getD (.int .i64 0)) w := by
  obtain ⟨S, h1, _⟩ := h.pick hi
  have := h1.1.look pkV_inj pk_law false Try.underlying83 (z := .int .i64 0) (by kernel_rfl) hk
  simpa using this
end
/-- The counts are these rows'. -/
def cntF (F : Pk → Option Value) (l : List Pk) : Prop := ∀ p, (F p).getD (.int .i64 0) = .int .i64 (l.count p)
theorem cntF_nil : cntF (fun _ => none) [] := fun p => rfl
theorem cntF_snoc {F : Pk → Option Value} {l : List Pk} (h : cntF F l) (p : Pk) : cntF (updK F p (.int .i64 ((l.count p : Int) + 1))) (l ++ [p]) := fun q => by
  unfold updK
  rw [cnt_snoc]
  by_cases e : q = p
  · subst e
    simp
  · rw [if_neg e, if_neg (fun h => e h.symm)]
    exact h q
theorem cntF_less {F : Pk → Option Value} {l m : List Pk} {p : Pk} (hm : ∀ q, l.count q = m.count q + if p = q then 1 else 0) (h : cntF F l) : cntF (updK F p (.int .i64 ((l.count p : Int) - 1))) m := fun q => by
  unfold updK
  by_cases e : q = p
  · subst e
    have := hm q
    rw [if_pos rfl] at this
    rw [if_pos rfl, this]
    simp
  · rw [if_neg e, h q, hm q, if_neg (fun h => e h.symm)]
    rfl
theorem cntF_pos {l m : List Pk} {p : Pk} (hm : ∀ q, l.count q = m.count q + if p = q then 1 else 0) : 1 ≤ l.count p := by
  rw [hm p, if_pos rfl]
  omega
end Go.Proofs.Yteahlnoonmfjhaa
