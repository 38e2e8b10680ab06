/- Several objects side by side (disks, the document's disks), beside rows of the caller's own: generic. (Made of XDkK by a program.) -/
import Derived.Test.YtobcfocbglkicaaMd
set_option linter.unusedVariables false
set_option maxRecDepth 100000
namespace Go.Proofs.Ytobcfocbglkicaa
open Go.RowKit

/-- An object in memory: what is said of its blocks stays where others are changed. -/
structure Ob where
  is : World → (Nat → Prop) → Prop
  mutw : ∀ {w w' : World} {S T : Nat → Prop}, is w S → Mut T w w' → (∀ i, S i → ¬ T i) → is w' S
/-- Objects that have nothing in common, and nothing with L. -/
def ObsF (L : Nat → Prop) (w : World) : List Ob → Prop
  | [] => True
  | D :: l => ∃ S, D.is w S ∧ (∀ k, S k → ¬ L k ∧ k < w.heap.size) ∧ ObsF (fun k => L k ∨ S k) w l
theorem ObsF.mono : ∀ {l : List Ob} {L L' : Nat → Prop} {w : World}, ObsF L w l → (∀ k, L' k → L k ∨ w.heap.size ≤ k) → ObsF L' w l
  | [], _, _, _, _, _ => trivial
  | D :: l, L, L', w, ⟨S, h1, h2, h3⟩, k => ⟨S, h1, fun i hi => ⟨fun hl => by
      rcases k i hl with h | h
      · exact (h2 i hi).1 h
      · have := (h2 i hi).2; omega, (h2 i hi).2⟩, h3.mono fun i hi => by
      rcases hi with hi | hi
      · rcases k i hi with h | h
        · exact .inl (.inl h)
        · exact .inr h
      · exact .inl (.inr hi)⟩
theorem ObsF.out : ∀ {l : List Ob} {L T : Nat → Prop} {w w' : World}, ObsF L w l → Mut T w w' → (∀ i, T i → L i) → ObsF L w' l
  | [], _, _, _, _, _, _, _ => trivial
  | D :: l, L, T, w, w', ⟨S, h1, h2, h3⟩, k, hT => ⟨S, D.mutw h1 k fun i hi ht => (h2 i hi).1 (hT i ht), fun i hi => ⟨(h2 i hi).1, Nat.lt_of_lt_of_le (h2 i hi).2 k.size⟩, h3.out k fun i hi => .inl (hT i hi)⟩
theorem ObsF.pick : ∀ {l : List Ob} {L : Nat → Prop} {w : World} {i : Nat} {D : Ob}, ObsF L w l → (∀ k, L k → k < w.heap.size) → l[i]? = some D →
    ∃ S, D.is w S ∧ (∀ k, S k → ¬ L k ∧ k < w.heap.size) ∧ ∀ w' (D' : Ob), D'.is w' (gr S w w') ∧ Mut S w w' → ObsF L w' (l.set i D')
  | D0 :: l, L, w, 0, D, ⟨S, h1, h2, h3⟩, hL, hi => by
    simp only [List.getElem?_cons_zero, Option.some.injEq] at hi
    subst hi
    refine ⟨S, h1, h2, fun w' D' ⟨h4, h5⟩ => ⟨gr S w w', h4, fun k hk => ?_, ?_⟩⟩
    · rcases hk with hk | hk
      · exact ⟨(h2 k hk).1, Nat.lt_of_lt_of_le (h2 k hk).2 h5.size⟩
      · exact ⟨fun hl => by have := hL k hl; omega, hk.2⟩
    · refine ObsF.out (T := S) (h3.mono (L' := fun k => L k ∨ gr S w w' k) fun k hk => ?_) h5 fun i hi => .inr (.inl hi)
      rcases hk with hk | hk | hk
      · exact .inl (.inl hk)
      · exact .inl (.inr hk)
      · exact .inr hk.1
  | D0 :: l, L, w, i + 1, D, ⟨S, h1, h2, h3⟩, hL, hi => by
    simp only [List.getElem?_cons_succ] at hi
    obtain ⟨S', k1, k2, k3⟩ := h3.pick (fun k hk => hk.elim (hL k) fun hs => (h2 k hs).2) hi
    refine ⟨S', k1, fun k hk => ⟨fun hl => (k2 k hk).1 (.inl hl), (k2 k hk).2⟩, fun w' D' h => ⟨S, D0.mutw h1 h.2 fun k hk hs => (k2 k hs).1 (.inr hk), fun k hk => ⟨(h2 k hk).1, Nat.lt_of_lt_of_le (h2 k hk).2 h.2.size⟩, k3 w' D' h⟩⟩

/-- What is there since W: rows of one's own, and disks. -/
structure OSt (W : World) (loc : List (Nat × Obj)) (ds : List Ob) (w : World) : Prop where
  bel : Below W.heap.size W w
  cel : ∀ p ∈ loc, W.heap.size ≤ p.1 ∧ w.heap[p.1]? = some p.2
  nod : (loc.map (·.1)).Nodup
  dks : ObsF (fun k => k < W.heap.size ∨ ∃ o, (k, o) ∈ loc) w ds
theorem OSt.start (W : World) : OSt W [] [] W := ⟨Below.refl _ _, by simp, by simp, trivial⟩
theorem OSt.lt {W w : World} {loc : List (Nat × Obj)} {ds : List Ob} (h : OSt W loc ds w) : ∀ k, (k < W.heap.size ∨ ∃ o, (k, o) ∈ loc) → k < w.heap.size := by
  rintro k (hk | ⟨o, ho⟩)
  · exact Nat.lt_of_lt_of_le hk h.bel.size
  · exact (Array.getElem?_eq_some_iff.1 (h.cel _ ho).2).1
theorem OSt.ext {W w w' : World} {loc : List (Nat × Obj)} {ds : List Ob} (h : OSt W loc ds w) (k : Ext w w') : OSt W loc ds w' :=
  ⟨h.bel.trans (k.mono h.bel.size), fun p hp => ⟨(h.cel p hp).1, (k.block _ (Array.getElem?_eq_some_iff.1 (h.cel p hp).2).1).trans (h.cel p hp).2⟩, h.nod, h.dks.out (T := fun _ => False) (Mut.of_ext k) fun _ h => h.elim⟩
theorem OSt.alloc {W w : World} {loc : List (Nat × Obj)} {ds : List Ob} (h : OSt W loc ds w) (o : Obj) : OSt W ((w.heap.size, o) :: loc) ds (w.alloc o) := by
  have h' := h.ext (extAl w o)
  refine ⟨h'.bel, fun p hp => ?_, ?_, ?_⟩
  · rcases List.mem_cons.1 hp with rfl | hp
    · exact ⟨h.bel.size, heap_alloc_last _ _⟩
    · exact h'.cel p hp
  · rw [List.map_cons, List.nodup_cons]
    refine ⟨fun hm => ?_, h.nod⟩
    obtain ⟨p, hp, hk⟩ := List.mem_map.1 hm
    have := (Array.getElem?_eq_some_iff.1 (h.cel p hp).2).1
    omega
  · refine (h.dks.mono (L' := fun k => k < W.heap.size ∨ ∃ o', (k, o') ∈ (w.heap.size, o) :: loc) fun k hk => ?_).out (T := fun _ => False) (Mut.of_ext (extAl w o)) fun _ h => h.elim
    rcases hk with hk | ⟨o', ho⟩
    · exact .inl (.inl hk)
    · rcases List.mem_cons.1 ho with e | ho
      · right
        have := congrArg Prod.fst e
        simp only at this
        omega
      · exact .inl (.inr ⟨o', ho⟩)
theorem OSt.drop {W w : World} {p : Nat × Obj} {loc : List (Nat × Obj)} {ds : List Ob} (h : OSt W (p :: loc) ds w) : OSt W loc ds w :=
  ⟨h.bel, fun q hq => h.cel q (List.mem_cons_of_mem _ hq), (List.nodup_cons.1 h.nod).2, h.dks.mono fun k hk => .inl (hk.imp id fun ⟨o, ho⟩ => ⟨o, List.mem_cons_of_mem _ ho⟩)⟩
theorem OSt.get {W w : World} {loc : List (Nat × Obj)} {ds : List Ob} (h : OSt W loc ds w) (i : Nat) {p : Nat × Obj} (hi : loc[i]? = some p) : w.heap[p.1]? = some p.2 := (h.cel p (List.mem_of_getElem? hi)).2
theorem OSt.dropD {W w : World} {p : Ob} {loc : List (Nat × Obj)} {ds : List Ob} (h : OSt W loc (p :: ds) w) : OSt W loc ds w := by
  obtain ⟨S, _, _, h3⟩ := h.dks
  exact ⟨h.bel, h.cel, h.nod, h3.mono fun k hk => .inl (.inl hk)⟩
/-- A row of one's own is written. -/
theorem OSt.row {W w : World} {loc : List (Nat × Obj)} {ds : List Ob} (h : OSt W loc ds w) (i : Nat) {g : Nat} {old : Array Value} {T : TypeId} (hi : loc[i]? = some (g, .cells old T (0, 0))) (new : Array Value) :
    OSt W (loc.set i (g, .cells new T (0, 0))) ds (w.setRow g new) := by
  have hm := List.mem_of_getElem? hi
  have hg := h.cel _ hm
  have hil := (List.getElem?_eq_some_iff.1 hi).1
  have hkeys : (loc.set i (g, .cells new T (0, 0))).map (·.1) = loc.map (·.1) := by
    apply List.ext_getElem?
    intro j
    by_cases e : i = j
    · subst e
      have hgi : loc[i] = (g, .cells old T (0, 0)) := by rw [List.getElem?_eq_getElem hil] at hi; exact Option.some.inj hi
      simp [hil, hgi]
    · simp [List.getElem?_set_ne e]
  refine ⟨below_setRow h.bel hg.1 _, fun p hp => ?_, by rw [hkeys]; exact h.nod, ?_⟩
  · obtain ⟨j, hj, rfl⟩ := List.getElem_of_mem hp
    have hj' : j < loc.length := by simpa using hj
    by_cases e : i = j
    · subst e
      rw [List.getElem_set_self]
      exact ⟨hg.1, setRow_heap _ _ _ _ _ _ hg.2⟩
    · rw [List.getElem_set_ne e]
      have hq := h.cel _ (List.getElem_mem hj')
      refine ⟨hq.1, (setRow_other _ _ _ _ fun e2 => e ?_).trans hq.2⟩
      have hn := h.nod
      rw [List.Nodup, List.pairwise_map, List.pairwise_iff_getElem] at hn
      have hgi : loc[i] = (g, .cells old T (0, 0)) := by rw [List.getElem?_eq_getElem hil] at hi; exact Option.some.inj hi
      rcases Nat.lt_or_gt_of_ne e with hlt | hlt
      · exact absurd (by rw [hgi, e2]) (hn i j hil hj' hlt)
      · exact absurd (by rw [hgi, e2]) (hn j i hj' hil hlt)
  · have hk : ∀ k, (∃ o, (k, o) ∈ loc.set i (g, .cells new T (0, 0))) → ∃ o, (k, o) ∈ loc := fun k ⟨o, ho⟩ => by
      have : k ∈ (loc.set i (g, .cells new T (0, 0))).map (·.1) := List.mem_map.2 ⟨_, ho, rfl⟩
      rw [hkeys] at this
      obtain ⟨p, hp, rfl⟩ := List.mem_map.1 this
      exact ⟨_, hp⟩
    have hk' : ∃ o, (g, o) ∈ loc.set i (g, .cells new T (0, 0)) := ⟨.cells new T (0, 0), List.mem_iff_getElem.2 ⟨i, by simpa using hil, by simp⟩⟩
    exact (h.dks.mono fun k h => .inl (h.imp id (hk k))).out (T := fun i => i = g) (mut_setRow (S := fun i => i = g) rfl _) fun i e => .inr (e ▸ hk')
theorem OSt.pick {W w : World} {loc : List (Nat × Obj)} {ds : List Ob} (h : OSt W loc ds w) {i : Nat} {D : Ob} (hi : ds[i]? = some D) :
    ∃ S, D.is w S ∧ (∀ k, S k → ¬ (k < W.heap.size ∨ ∃ o, (k, o) ∈ loc)) ∧ ∀ w' (D' : Ob), D'.is w' (gr S w w') ∧ Mut S w w' → OSt W loc (ds.set i D') w' := by
  obtain ⟨S, h1, h2, h3⟩ := h.dks.pick h.lt hi
  refine ⟨S, h1, fun k hk => (h2 k hk).1, fun w' D' hT => ⟨h.bel.trans (hT.2.below (fun i hi => ?_) h.bel.size), fun p hp => ⟨(h.cel p hp).1, (hT.2.block _ (h.lt _ (.inr ⟨_, hp⟩)) fun hs => (h2 _ hs).1 (.inr ⟨_, hp⟩)).trans (h.cel p hp).2⟩, h.nod, h3 w' D' hT⟩⟩
  have := (h2 i hi).1
  have : ¬ i < W.heap.size := fun hl => this (.inl hl)
  omega
/-- One disk more. -/
theorem OSt.push {W w w' : World} {loc : List (Nat × Obj)} {ds : List Ob} (h : OSt W loc ds w) {D : Ob} (k : Ext w w') (hd : D.is w' (fun i => w.heap.size ≤ i ∧ i < w'.heap.size)) : OSt W loc (D :: ds) w' := by
  have h' := h.ext k
  refine ⟨h'.bel, h'.cel, h'.nod, _, hd, fun i hi => ⟨fun hl => ?_, hi.2⟩, ?_⟩
  · have := h.lt i hl
    omega
  · refine (h.dks.mono (L' := fun i => (i < W.heap.size ∨ ∃ o, (i, o) ∈ loc) ∨ (w.heap.size ≤ i ∧ i < w'.heap.size)) fun i hi => ?_).out (T := fun _ => False) (Mut.of_ext k) fun _ h => h.elim
    rcases hi with hi | hi
    · exact .inl hi
    · exact .inr hi.1

/-- A disk as an object. -/
def dkOb (g : Nat) (D : DK) : Ob := ⟨fun w S => DkAt w S g D, fun h k hd => h.mutw k hd⟩
end Go.Proofs.Ytobcfocbglkicaa
