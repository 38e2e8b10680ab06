/- Several disks side by side, beside rows of the caller's own. Contracts of package disk over them. -/
import Derived.Test.YtobcfocbglkicaaMd
set_option linter.unusedVariables false
set_option maxRecDepth 100000
namespace Go.Proofs.Ytobcfocbglkicaa
open Go.RowKit

/-- Disks that have nothing in common, and nothing with L. -/
def DksF (L : Nat → Prop) (w : World) : List (Nat × DK) → Prop
  | [] => True
  | (g, D) :: l => ∃ S, DkAt w S g D ∧ (∀ k, S k → ¬ L k ∧ k < w.heap.size) ∧ DksF (fun k => L k ∨ S k) w l
theorem DksF.mono : ∀ {l : List (Nat × DK)} {L L' : Nat → Prop} {w : World}, DksF L w l → (∀ k, L' k → L k ∨ w.heap.size ≤ k) → DksF L' w l
  | [], _, _, _, _, _ => trivial
  | (g, D) :: l, L, L', w, ⟨S, h1, h2, h3⟩, k => ⟨S, h1, fun i hi => ⟨fun hl => by
      rcases k i hl with h | h
      · exact (h2 i hi).1 h
      · have := (h2 i hi).2; omega, (h2 i hi).2⟩, h3.mono fun i hi => by
      rcases hi with hi | hi
      · rcases k i hi with h | h
        · exact .inl (.inl h)
        · exact .inr h
      · exact .inl (.inr hi)⟩
theorem DksF.out : ∀ {l : List (Nat × DK)} {L T : Nat → Prop} {w w' : World}, DksF L w l → Mut T w w' → (∀ i, T i → L i) → DksF L w' l
  | [], _, _, _, _, _, _, _ => trivial
  | (g, D) :: l, L, T, w, w', ⟨S, h1, h2, h3⟩, k, hT => ⟨S, h1.mutw k fun i hi ht => (h2 i hi).1 (hT i ht), fun i hi => ⟨(h2 i hi).1, Nat.lt_of_lt_of_le (h2 i hi).2 k.size⟩, h3.out k fun i hi => .inl (hT i hi)⟩
theorem DksF.pick : ∀ {l : List (Nat × DK)} {L : Nat → Prop} {w : World} {i g : Nat} {D : DK}, DksF L w l → (∀ k, L k → k < w.heap.size) → l[i]? = some (g, D) →
    ∃ S, DkAt w S g D ∧ (∀ k, S k → ¬ L k ∧ k < w.heap.size) ∧ ∀ w' D', DkTo S w w' g D' → DksF L w' (l.set i (g, D'))
  | (g0, D0) :: l, L, w, 0, g, D, ⟨S, h1, h2, h3⟩, hL, hi => by
    simp only [List.getElem?_cons_zero, Option.some.injEq, Prod.mk.injEq] at hi
    obtain ⟨rfl, rfl⟩ := hi
    refine ⟨S, h1, h2, fun w' D' ⟨h4, h5⟩ => ⟨gr S w w', h4, fun k hk => ?_, ?_⟩⟩
    · rcases hk with hk | hk
      · exact ⟨(h2 k hk).1, Nat.lt_of_lt_of_le (h2 k hk).2 h5.size⟩
      · exact ⟨fun hl => by have := hL k hl; omega, hk.2⟩
    · refine DksF.out (T := S) (h3.mono (L' := fun k => L k ∨ gr S w w' k) fun k hk => ?_) h5 fun i hi => .inr (.inl hi)
      rcases hk with hk | hk | hk
      · exact .inl (.inl hk)
      · exact .inl (.inr hk)
      · exact .inr hk.1
  | (g0, D0) :: l, L, w, i + 1, g, D, ⟨S, h1, h2, h3⟩, hL, hi => by
    simp only [List.getElem?_cons_succ] at hi
    obtain ⟨S', k1, k2, k3⟩ := h3.pick (fun k hk => hk.elim (hL k) fun hs => (h2 k hs).2) hi
    refine ⟨S', k1, fun k hk => ⟨fun hl => (k2 k hk).1 (.inl hl), (k2 k hk).2⟩, fun w' D' h => ⟨S, h1.mutw h.2 fun k hk hs => (k2 k hs).1 (.inr hk), fun k hk => ⟨(h2 k hk).1, Nat.lt_of_lt_of_le (h2 k hk).2 h.2.size⟩, k3 w' D' h⟩⟩

/-- What is there since W: rows of one's own, and disks. -/
structure DSt (W : World) (loc : List (Nat × Obj)) (ds : List (Nat × DK)) (w : World) : Prop where
  bel : Below W.heap.size W w
  cel : ∀ p ∈ loc, W.heap.size ≤ p.1 ∧ w.heap[p.1]? = some p.2
  nod : (loc.map (·.1)).Nodup
  dks : DksF (fun k => k < W.heap.size ∨ ∃ o, (k, o) ∈ loc) w ds
theorem DSt.start (W : World) : DSt W [] [] W := ⟨Below.refl _ _, by simp, by simp, trivial⟩
theorem DSt.lt {W w : World} {loc : List (Nat × Obj)} {ds : List (Nat × DK)} (h : DSt W loc ds w) : ∀ k, (k < W.heap.size ∨ ∃ o, (k, o) ∈ loc) → k < w.heap.size := by
  rintro k (hk | ⟨o, ho⟩)
  · exact Nat.lt_of_lt_of_le hk h.bel.size
  · exact (Array.getElem?_eq_some_iff.1 (h.cel _ ho).2).1
theorem DSt.ext {W w w' : World} {loc : List (Nat × Obj)} {ds : List (Nat × DK)} (h : DSt W loc ds w) (k : Ext w w') : DSt W loc ds w' :=
  ⟨h.bel.trans (k.mono h.bel.size), fun p hp => ⟨(h.cel p hp).1, (k.block _ (Array.getElem?_eq_some_iff.1 (h.cel p hp).2).1).trans (h.cel p hp).2⟩, h.nod, h.dks.out (T := fun _ => False) (Mut.of_ext k) fun _ h => h.elim⟩
theorem DSt.alloc {W w : World} {loc : List (Nat × Obj)} {ds : List (Nat × DK)} (h : DSt W loc ds w) (o : Obj) : DSt W ((w.heap.size, o) :: loc) ds (w.alloc o) := by
  have h' := h.ext (extAl w o)
  refine ⟨h'.bel, fun p hp => ?_, ?_, ?_⟩
  · rcases List.mem_cons.1 hp with rfl | hp
    · exact ⟨h.bel.size, heap_alloc_last _ _⟩
    · exact h'.cel p hp
  · rw [List.map_cons, List.nodup_cons]
    refine ⟨fun hm => ?_, h.nod⟩
    obtain ⟨p, hp, hk⟩ := List.mem_map.1 hm
    have := (Array.getElem?_eq_some_iff.1 (h.cel p hp).2).1
    omega
  · refine (h.dks.mono (L' := fun k => k < W.heap.size ∨ ∃ o', (k, o') ∈ (w.heap.size, o) :: loc) fun k hk => ?_).out (T := fun _ => False) (Mut.of_ext (extAl w o)) fun _ h => h.elim
    rcases hk with hk | ⟨o', ho⟩
    · exact .inl (.inl hk)
    · rcases List.mem_cons.1 ho with e | ho
      · right
        have := congrArg Prod.fst e
        simp only at this
        omega
      · exact .inl (.inr ⟨o', ho⟩)
theorem DSt.drop {W w : World} {p : Nat × Obj} {loc : List (Nat × Obj)} {ds : List (Nat × DK)} (h : DSt W (p :: loc) ds w) : DSt W loc ds w :=
  ⟨h.bel, fun q hq => h.cel q (List.mem_cons_of_mem _ hq), (List.nodup_cons.1 h.nod).2, h.dks.mono fun k hk => .inl (hk.imp id fun ⟨o, ho⟩ => ⟨o, List.mem_cons_of_mem _ ho⟩)⟩
theorem DSt.get {W w : World} {loc : List (Nat × Obj)} {ds : List (Nat × DK)} (h : DSt W loc ds w) (i : Nat) {p : Nat × Obj} (hi : loc[i]? = some p) : w.heap[p.1]? = some p.2 := (h.cel p (List.mem_of_getElem? hi)).2
theorem DSt.dropD {W w : World} {p : Nat × DK} {loc : List (Nat × Obj)} {ds : List (Nat × DK)} (h : DSt W loc (p :: ds) w) : DSt W loc ds w := by
  obtain ⟨S, _, _, h3⟩ := h.dks
  exact ⟨h.bel, h.cel, h.nod, h3.mono fun k hk => .inl (.inl hk)⟩
/-- A row of one's own is written. -/
theorem DSt.row {W w : World} {loc : List (Nat × Obj)} {ds : List (Nat × DK)} (h : DSt W loc ds w) (i : Nat) {g : Nat} {old : Array Value} {T : TypeId} (hi : loc[i]? = some (g, .cells old T (0, 0))) (new : Array Value) :
    DSt W (loc.set i (g, .cells new T (0, 0))) ds (w.setRow g new) := by
  have hm := List.mem_of_getElem? hi
  have hg := h.cel _ hm
  have hil := (List.getElem?_eq_some_iff.1 hi).1
  have hkeys : (loc.set i (g, .cells new T (0, 0))).map (·.1) = loc.map (·.1) := by
    apply List.ext_getElem?
    intro j
    by_cases e : i = j
    · subst e
      have hgi : loc[i] = (g, .cells old T (0, 0)) := by rw [List.getElem?_eq_getElem hil] at hi; exact Option.some.inj hi
      simp [hil, hgi]
    · simp [List.getElem?_set_ne e]
  refine ⟨below_setRow h.bel hg.1 _, fun p hp => ?_, by rw [hkeys]; exact h.nod, ?_⟩
  · obtain ⟨j, hj, rfl⟩ := List.getElem_of_mem hp
    have hj' : j < loc.length := by simpa using hj
    by_cases e : i = j
    · subst e
      rw [List.getElem_set_self]
      exact ⟨hg.1, setRow_heap _ _ _ _ _ _ hg.2⟩
    · rw [List.getElem_set_ne e]
      have hq := h.cel _ (List.getElem_mem hj')
      refine ⟨hq.1, (setRow_other _ _ _ _ fun e2 => e ?_).trans hq.2⟩
      have hn := h.nod
      rw [List.Nodup, List.pairwise_map, List.pairwise_iff_getElem] at hn
      have hgi : loc[i] = (g, .cells old T (0, 0)) := by rw [List.getElem?_eq_getElem hil] at hi; exact Option.some.inj hi
      rcases Nat.lt_or_gt_of_ne e with hlt | hlt
      · exact absurd (by rw [hgi, e2]) (hn i j hil hj' hlt)
      · exact absurd (by rw [hgi, e2]) (hn j i hj' hil hlt)
  · have hk : ∀ k, (∃ o, (k, o) ∈ loc.set i (g, .cells new T (0, 0))) → ∃ o, (k, o) ∈ loc := fun k ⟨o, ho⟩ => by
      have : k ∈ (loc.set i (g, .cells new T (0, 0))).map (·.1) := List.mem_map.2 ⟨_, ho, rfl⟩
      rw [hkeys] at this
      obtain ⟨p, hp, rfl⟩ := List.mem_map.1 this
      exact ⟨_, hp⟩
    have hk' : ∃ o, (g, o) ∈ loc.set i (g, .cells new T (0, 0)) := ⟨.cells new T (0, 0), List.mem_iff_getElem.2 ⟨i, by simpa using hil, by simp⟩⟩
    exact (h.dks.mono fun k h => .inl (h.imp id (hk k))).out (T := fun i => i = g) (mut_setRow (S := fun i => i = g) rfl _) fun i e => .inr (e ▸ hk')
theorem DSt.pick {W w : World} {loc : List (Nat × Obj)} {ds : List (Nat × DK)} (h : DSt W loc ds w) {i g : Nat} {D : DK} (hi : ds[i]? = some (g, D)) :
    ∃ S, DkAt w S g D ∧ (∀ k, S k → ¬ (k < W.heap.size ∨ ∃ o, (k, o) ∈ loc)) ∧ ∀ w' D', DkTo S w w' g D' → DSt W loc (ds.set i (g, D')) w' := by
  obtain ⟨S, h1, h2, h3⟩ := h.dks.pick h.lt hi
  refine ⟨S, h1, fun k hk => (h2 k hk).1, fun w' D' hT => ⟨h.bel.trans (hT.2.below (fun i hi => ?_) h.bel.size), fun p hp => ⟨(h.cel p hp).1, (hT.2.block _ (h.lt _ (.inr ⟨_, hp⟩)) fun hs => (h2 _ hs).1 (.inr ⟨_, hp⟩)).trans (h.cel p hp).2⟩, h.nod, h3 w' D' hT⟩⟩
  have := (h2 i hi).1
  have : ¬ i < W.heap.size := fun hl => this (.inl hl)
  omega
/-- One disk more. -/
theorem DSt.push {W w w' : World} {loc : List (Nat × Obj)} {ds : List (Nat × DK)} (h : DSt W loc ds w) {g : Nat} {D : DK} (k : Ext w w') (hd : DkAt w' (fun i => w.heap.size ≤ i ∧ i < w'.heap.size) g D) : DSt W loc ((g, D) :: ds) w' := by
  have h' := h.ext k
  refine ⟨h'.bel, h'.cel, h'.nod, _, hd, fun i hi => ⟨fun hl => ?_, hi.2⟩, ?_⟩
  · have := h.lt i hl
    omega
  · refine (h.dks.mono (L' := fun i => (i < W.heap.size ∨ ∃ o, (i, o) ∈ loc) ∨ (w.heap.size ≤ i ∧ i < w'.heap.size)) fun i hi => ?_).out (T := fun _ => False) (Mut.of_ext k) fun _ h => h.elim
    rcases hi with hi | hi
    · exact .inl hi
    · exact .inr hi.1

section
variable {W w : World} {loc : List (Nat × Obj)} {ds : List (Nat × DK)} {g : Nat} {D : DK}
theorem new_l (h : DSt W loc ds w) (n : Int) (h1 : 64 ≤ n) (h2 : n ≤ 8192) : Calls Try.prog 23 #[.int .i64 n] w fun e w' => ∃ g, e = .returned (.tuple #[.pointer (some ⟨g, 0, none⟩), .int .i64 0]) ∧ DSt W loc ((g, newD n []) :: ds) w' :=
  (new_ok n w h1 h2).mono fun e w' ⟨g, he, _, hd, hb⟩ => ⟨g, he, h.push hb hd⟩
theorem nonew_l (h : DSt W loc ds w) (n : Int) (hn : ¬ (64 ≤ n ∧ n ≤ 8192)) : Calls Try.prog 23 #[.int .i64 n] w fun e w' => e = .returned (.tuple #[.pointer none, .int .i64 1]) ∧ DSt W loc ds w' :=
  (new_no n w hn).mono fun e w' ⟨he, hb⟩ => ⟨he, h.ext hb⟩
theorem write_l (i : Nat) (h : DSt W loc ds w) (hi : ds[i]? = some (g, D)) (z : Int) {b : List UInt8} (hb : b.length = 512) (hkl : D.keep.length ≤ 1000000) (hwl : D.wt.length ≤ 100000) :
    Calls Try.prog 26 #[.pointer (some ⟨g, 0, none⟩), .int .i64 z, .agg (bvs b).toArray] w fun e w' => e = .returned (.int .i64 (D.write z b).2) ∧ DSt W loc (ds.set i (g, (D.write z b).1)) w' := by
  obtain ⟨S, h1, _, h3⟩ := h.pick hi
  exact (Write_any z b w h1 hb hkl hwl).mono fun e w' ⟨he, hT⟩ => ⟨he, h3 _ _ hT⟩
theorem flush_l (i : Nat) (h : DSt W loc ds w) (hi : ds[i]? = some (g, D)) (hkl : D.keep.length ≤ 1000000) (hwl : D.wt.length ≤ 1000000) :
    Calls Try.prog 25 #[.pointer (some ⟨g, 0, none⟩)] w fun e w' => e = .returned (.int .i64 D.flush.2) ∧ DSt W loc (ds.set i (g, D.flush.1)) w' := by
  obtain ⟨S, h1, _, h3⟩ := h.pick hi
  exact (Flush_any w h1 hkl hwl).mono fun e w' ⟨he, hT⟩ => ⟨he, h3 _ _ hT⟩
theorem fail_l (i : Nat) (h : DSt W loc ds w) (hi : ds[i]? = some (g, D)) {vk : Value} (keep : List Bool) (hk : RBo w vk keep) (hkl : keep.length ≤ 1000000) (hwl : D.wt.length ≤ 1000000) :
    Calls Try.prog 28 #[.pointer (some ⟨g, 0, none⟩), vk] w fun e w' => e = .returned (.int .i64 (D.Fail keep).2) ∧ DSt W loc (ds.set i (g, (D.Fail keep).1)) w' := by
  obtain ⟨S, h1, _, h3⟩ := h.pick hi
  exact (Fail_any keep w h1 hk hkl hwl).mono fun e w' ⟨he, hT⟩ => ⟨he, h3 _ _ hT⟩
theorem cut_l (i : Nat) (h : DSt W loc ds w) (hi : ds[i]? = some (g, D)) (n : Int) {vk : Value} (keep : List Bool) (hk : RBo w vk keep) (hkl : keep.length ≤ 1000000) (hn1 : n ≤ 9223372036854775807) (hv : ∀ b off m c, vk = .slice (some ⟨b, off, none⟩) m c → b < W.heap.size ∨ ∃ o, (b, o) ∈ loc) :
    Calls Try.prog 24 #[.pointer (some ⟨g, 0, none⟩), .int .i64 n, vk] w fun e w' => e = .returned (.int .i64 (D.say n keep).2) ∧ DSt W loc (ds.set i (g, (D.say n keep).1)) w' := by
  obtain ⟨S, h1, h2, h3⟩ := h.pick hi
  exact (Cut_any n keep w h1 hk hkl (fun b off m c e hs => h2 b hs (hv b off m c e)) hn1).mono fun e w' ⟨he, hT⟩ => ⟨he, h3 _ _ hT⟩
theorem read_l (i : Nat) (h : DSt W loc ds w) (hi : ds[i]? = some (g, D)) (z : Int) (hwl : D.wt.length ≤ 1000000) :
    Calls Try.prog 31 #[.pointer (some ⟨g, 0, none⟩), .int .i64 z] w fun e w' => e = .returned (.tuple #[bval (D.read z).1, .int .i64 (D.read z).2]) ∧ DSt W loc ds w' ∧ Ext w w' := by
  obtain ⟨S, h1, _⟩ := h.pick hi
  exact (Read_any z w h1 hwl).mono fun e w' ⟨he, hb⟩ => ⟨he, h.ext hb, hb⟩
theorem dead_l (i : Nat) (h : DSt W loc ds w) (hi : ds[i]? = some (g, D)) : Calls Try.prog 29 #[.pointer (some ⟨g, 0, none⟩)] w fun e w' => e = .returned (.bool D.dead) ∧ DSt W loc ds w' := by
  obtain ⟨S, h1, _⟩ := h.pick hi
  exact (dead_any w h1).mono fun e w' ⟨he, hb⟩ => ⟨he, h.ext hb⟩
theorem waiting_l (i : Nat) (h : DSt W loc ds w) (hi : ds[i]? = some (g, D)) : Calls Try.prog 32 #[.pointer (some ⟨g, 0, none⟩)] w fun e w' => e = .returned (.int .i64 D.wt.length) ∧ DSt W loc ds w' := by
  obtain ⟨S, h1, _⟩ := h.pick hi
  exact (waiting_any w h1).mono fun e w' ⟨he, hb⟩ => ⟨he, h.ext hb⟩
theorem blocks_l (i : Nat) (h : DSt W loc ds w) (hi : ds[i]? = some (g, D)) : Calls Try.prog 36 #[.pointer (some ⟨g, 0, none⟩)] w fun e w' => e = .returned (.int .i64 D.n) ∧ DSt W loc ds w' := by
  obtain ⟨S, h1, _⟩ := h.pick hi
  exact (blocks_any w h1).mono fun e w' ⟨he, hb⟩ => ⟨he, h.ext hb⟩
theorem boot_l (i : Nat) (h : DSt W loc ds w) (hi : ds[i]? = some (g, D)) (hd : D.dead = true) : Calls Try.prog 35 #[.pointer (some ⟨g, 0, none⟩)] w fun e w' => ∃ g', e = .returned (.tuple #[.pointer (some ⟨g', 0, none⟩), .int .i64 0]) ∧ DSt W loc ((g', newD D.n D.on) :: ds) w' := by
  obtain ⟨S, h1, _⟩ := h.pick hi
  exact (Boot_ok w h1 hd).mono fun e w' ⟨g', he, _, hD, hb⟩ => ⟨g', he, h.push hb hD⟩
theorem noboot_l (i : Nat) (h : DSt W loc ds w) (hi : ds[i]? = some (g, D)) (hd : D.dead = false) : Calls Try.prog 35 #[.pointer (some ⟨g, 0, none⟩)] w fun e w' => e = .returned (.tuple #[.pointer none, .int .i64 50]) ∧ DSt W loc ds w' := by
  obtain ⟨S, h1, _⟩ := h.pick hi
  exact (Boot_no w h1 hd).mono fun e w' ⟨he, hb⟩ => ⟨he, h.ext hb⟩
theorem copy_l (i : Nat) (h : DSt W loc ds w) (hi : ds[i]? = some (g, D)) (hkl : D.keep.length ≤ 1000000) (hwl : D.wt.length ≤ 1000000) : Calls Try.prog 33 #[.pointer (some ⟨g, 0, none⟩)] w fun e w' => ∃ g', e = .returned (.pointer (some ⟨g', 0, none⟩)) ∧ DSt W loc ((g', D) :: ds) w' := by
  obtain ⟨S, h1, _⟩ := h.pick hi
  exact (Copy_any w h1 hkl hwl).mono fun e w' ⟨g', he, _, hD, hb⟩ => ⟨g', he, h.push hb hD⟩
theorem DSt.ok (h : DSt W loc ds w) {i : Nat} (hi : ds[i]? = some (g, D)) : D.Ok := by
  obtain ⟨S, h1, _⟩ := h.pick hi
  exact h1.ok
end
end Go.Proofs.Ytobcfocbglkicaa
