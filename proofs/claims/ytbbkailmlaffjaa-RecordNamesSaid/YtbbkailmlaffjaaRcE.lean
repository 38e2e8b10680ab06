/- Records: what holds while a chunk is gone through. -/
import Derived.Test.YtbbkailmlaffjaaRcD
import Derived.Test.YtbbkailmlaffjaaRngA
set_option linter.unusedVariables false
set_option maxRecDepth 100000
namespace Go.Proofs.Ytbbkailmlaffjaa
open Go.RowKit

theorem Mut.thenM {S R : Nat → Prop} {a b c : World} (h : Mut S a b) (k : Mut R b c) (hR : ∀ i, R i → a.heap.size ≤ i) : Mut S a c :=
  ⟨k.os.trans h.os, k.tape.trans h.tape, k.output.trans h.output, Nat.le_trans h.size k.size, fun i hi hn => (k.block i (Nat.lt_of_lt_of_le hi h.size) fun hr => by have := hR i hr; omega).trans (h.block i hi hn)⟩
def svs (l : List (List UInt8)) : List Value := l.map fun x => .string (str x)
theorem svs_length (l : List (List UInt8)) : (svs l).length = l.length := by simp [svs]
theorem svs_app (a b : List (List UInt8)) : svs (a ++ b) = svs a ++ svs b := by simp [svs]
theorem svs_one (l : List (List UInt8)) : ∀ u ∈ svs l, One u := by
  intro u hu
  obtain ⟨b, _, rfl⟩ := List.mem_map.1 hu
  rfl
/-- Blocks that are the reader's, or were made since. -/
def trS (S : Nat → Prop) (w W : World) : Nat → Prop := fun i => gr S w W i ∧ ∃ o, W.heap[i]? = some o ∧ rcK o
structure Jr (w : World) (S : Nat → Prop) (g : Nat) (st : Rc) (chv : Value) (rest : List UInt8) (xs : List (List UInt8)) (o : Obj) (W : World) : Prop where
  rc : RcAt W (trS S w W) g st
  m : Mut S w W
  hcb : W.heap[w.heap.size + 2]? = some (.cells #[chv] 22 (0, 0))
  hrb : W.heap[w.heap.size + 1]? = some (.cells #[.pointer (some ⟨g, 0, none⟩)] 24 (0, 0))
  ht : ∃ tv, W.heap[w.heap.size]? = some (.cells #[tv] 26 (0, 0)) ∧ OwnR W w.heap.size 9 1 One tv xs.length (svs xs)
  hl : W.heap[w.heap.size + 3 + 1]? = some o
  hD : W.heap[w.heap.size + 3]? = some (.deferred (some []))
  ch : RS w chv rest
  cn : ∀ b off n c, chv = .slice (some ⟨b, off, none⟩) n c → ¬ S b
  ol : ∃ r, o = .loop r
section
variable {w W W' : World} {S T : Nat → Prop} {g : Nat} {st st' : Rc} {chv : Value} {rest : List UInt8} {xs : List (List UInt8)} {o : Obj}
theorem Jr.rs (h : Jr w S g st chv rest xs o W) : RS W chv rest := by
  rcases h.ch with ⟨rfl, rfl⟩ | ⟨b, off, c, hv, hb, hc, hj⟩
  · exact .inl ⟨rfl, rfl⟩
  · refine .inr ⟨b, off, c, hv, Nat.lt_of_lt_of_le hb h.m.size, hc, fun j hjl => ?_⟩
    rw [← hj j hjl]
    exact World.cell?_of_block (h.m.block b hb (h.cn b off _ c hv))
/-- The reader has changed, and blocks of its own alone. -/
theorem Jr.turn (h : Jr w S g st chv rest xs o W) (k : Mut T W W') (hT : ∀ i, T i → trS S w W i) (hr : RcAt W' (gr (trS S w W) W W') g st') : Jr w S g st' chv rest xs o W' := by
  have key : ∀ (b : Nat) (o : Obj), W.heap[b]? = some o → ¬ rcK o → W'.heap[b]? = some o := fun b o hb hk => (k.block b (heap_lt hb) fun ht => by
    obtain ⟨_, o', ho', hk'⟩ := hT b ht
    rw [hb] at ho'
    cases ho'
    exact hk hk').trans hb
  have nk : ∀ (cs : Array Value) (t : TypeId) (fr : Nat × Nat), t ≠ 48 → t ≠ 5 → ¬ rcK (.cells cs t fr) := fun cs t fr h1 h2 h => by
    rcases h with h | h
    · exact h1 h
    · exact h2 h
  have hsz := h.m.size
  obtain ⟨tv, ht1, ht2⟩ := h.ht
  refine
    { rc := (rcOb g st').mono ((rcOb g st').trim hr) fun i hi => ⟨?_, hi.2⟩
      m := mut_gr h.m (k.mono fun i hi => (hT i hi).1)
      hcb := key _ _ h.hcb (nk _ _ _ (by decide) (by decide))
      hrb := key _ _ h.hrb (nk _ _ _ (by decide) (by decide))
      ht := ⟨tv, key _ _ ht1 (nk _ _ _ (by decide) (by decide)), ht2.mutO k fun b hb hTb => ?_⟩
      hl := ?_
      hD := key _ _ h.hD (fun h => h)
      ch := h.ch
      cn := h.cn
      ol := h.ol }
  · rcases hi.1 with h1 | h1
    · exact gr_mono k.size i h1.1
    · exact .inr ⟨by omega, h1.2⟩
  · obtain ⟨cs, hc⟩ := own_blk ht2 hb
    obtain ⟨_, o', ho', hk'⟩ := hT b hTb
    rw [hc] at ho'
    cases ho'
    exact nk _ _ _ (by decide) (by decide) hk'
  · obtain ⟨r, rfl⟩ := h.ol
    exact key _ _ h.hl (fun h => h)
/-- Blocks that are no reader's have changed: the reader stays. -/
theorem Jr.stay (h : Jr w S g st chv rest xs o W) (k : Mut T W W') (hT : ∀ i o, T i → W.heap[i]? = some o → ¬ rcK o) (hw : ∀ i, T i → w.heap.size ≤ i) : RcAt W' (trS S w W') g st ∧ Mut S w W' := by
  refine ⟨(rcOb g st).mono ((rcOb g st).trim ((rcOb g st).mutw h.rc k (fun i ⟨_, o, ho, hk⟩ hi => hT i o hi ho hk) fun _ _ _ _ h => h)) fun i hi => ⟨gr_mono k.size i hi.1.1, hi.2⟩, h.m.thenM k hw⟩
theorem rcn {cs : Array Value} {t : TypeId} {fr : Nat × Nat} (h1 : t ≠ 48) (h2 : t ≠ 5) : ¬ rcK (.cells cs t fr) := fun h => by
  rcases h with h | h
  · exact h1 h
  · exact h2 h
theorem Jr.cut (h : Jr w S g st chv rest xs o W) (chv' : Value) (rest' : List UInt8) (hc : RS w chv' rest') (hn : ∀ b off n c, chv' = .slice (some ⟨b, off, none⟩) n c → ¬ S b) : Jr w S g st chv' rest' xs o (W.setRow (w.heap.size + 2) #[chv']) := by
  have k := mut_setRow (S := fun i => i = w.heap.size + 2) (w := W) rfl #[chv']
  obtain ⟨h1, h2⟩ := h.stay k (fun i o hi ho => by subst hi; rw [h.hcb] at ho; cases ho; exact rcn (by decide) (by decide)) (fun i hi => by omega)
  obtain ⟨tv, ht1, ht2⟩ := h.ht
  exact
    { rc := h1, m := h2
      hcb := setRow_heap _ _ _ _ _ _ h.hcb
      hrb := (setRow_other _ _ _ _ (by omega)).trans h.hrb
      ht := ⟨tv, (setRow_other _ _ _ _ (by omega)).trans ht1, ht2.set h.hcb (by decide)⟩
      hl := (setRow_other _ _ _ _ (by omega)).trans h.hl
      hD := (setRow_other _ _ _ _ (by omega)).trans h.hD
      ch := hc, cn := hn, ol := h.ol }
theorem Jr.turnO {r : Loop} (h : Jr w S g st chv rest xs o W) : Jr w S g st chv rest xs (.loop r) (W.putObj (w.heap.size + 3 + 1) (.loop r)) := by
  have hlt := heap_lt h.hl
  have k : Mut (fun i => i = w.heap.size + 3 + 1) W (W.putObj (w.heap.size + 3 + 1) (.loop r)) := Mut.of_grown (grownBy_putObj' W (w.heap.size + 3 + 1) (.loop r)) fun b hb => by simpa using hb.symm
  have key : ∀ b, b ≠ w.heap.size + 3 + 1 → b < W.heap.size → (W.putObj (w.heap.size + 3 + 1) (.loop r)).heap[b]? = W.heap[b]? := fun b hb hl => k.block b hl hb
  obtain ⟨h1, h2⟩ := h.stay k (fun i o' hi ho => by subst hi; rw [h.hl] at ho; cases ho; obtain ⟨r', rfl⟩ := h.ol; exact fun h => h) (fun i hi => by omega)
  obtain ⟨tv, ht1, ht2⟩ := h.ht
  exact
    { rc := h1, m := h2
      hcb := (key _ (by omega) (heap_lt h.hcb)).trans h.hcb
      hrb := (key _ (by omega) (heap_lt h.hrb)).trans h.hrb
      ht := ⟨tv, (key _ (by omega) (heap_lt ht1)).trans ht1, ht2.mutO k fun b hb e => by
        obtain ⟨cs, hc⟩ := own_blk ht2 hb
        subst e
        rw [h.hl] at hc
        obtain ⟨r', hr⟩ := h.ol
        rw [hr] at hc
        cases hc⟩
      hl := World.putObj_heap_same hlt
      hD := (key _ (by omega) (heap_lt h.hD)).trans h.hD
      ch := h.ch, cn := h.cn, ol := ⟨r, rfl⟩ }
theorem app_str {w : World} {B n : Nat} {v x : Value} {cs : List Value} {m : Nat} {new : List Value} {tx ty : TypeId} (ho : OwnR w B 9 1 One v n cs) (hs : Src Try.prog 1 tx x m new w) (hB : B ≤ w.heap.size) (hn : ∀ u ∈ new, One u) (hc : n + m ≤ 100000000) :
    ∃ v' w', (Builtin.append_ #[26, tx] ty #[v, x]).run Try.prog w = .ok v' w' ∧ OwnR w' B 9 1 One v' (n + m) (cs ++ new) ∧ Below B w w' ∧ w.grownBy w' v.ownBlock ∧ (∀ b, v'.ownBlock = some b → v.ownBlock = some b ∨ w.heap.size ≤ b) := by
  have h : (Try.prog.info? 9).map (fun i => (i.zero, i.size, i.bytes)) = some (some (.string ⟨#[]⟩), 1, 16) := by kernel_rfl
  obtain ⟨i, hi, hz0, hz1, hz2⟩ := info_prt h
  exact appG2 (ty := ty) Try.underlying26 hi hz1 hz0 rfl ho hs hB (by omega) hn (by intro u hu; simp [Value.cells] at hu; subst hu; rfl) (by rw [hz2]; omega) (by omega)
/-- A record is told. -/
theorem Jr.put (h : Jr w S g st chv rest xs o W) (x : List UInt8) (hn : xs.length ≤ 10000000) :
    ∃ A c, W.heap[w.heap.size]? = some (.cells #[.slice A xs.length c] 26 (0, 0)) ∧ ∃ tv' W2, (Builtin.append_ #[26, 26] 26 #[.slice A xs.length c, .slice (some ⟨W.heap.size, 0, none⟩) 1 1]).run Try.prog (W.alloc (.cells #[.string (str x)] 9)) = .ok tv' W2 ∧
      W2.heap[w.heap.size]? = some (.cells #[.slice A xs.length c] 26 (0, 0)) ∧ Jr w S g st chv rest (xs ++ [x]) o (W2.setRow w.heap.size #[tv']) := by
  obtain ⟨tv, ht1, ht2⟩ := h.ht
  obtain ⟨A, c, rfl⟩ := ht2.form
  have hx := extAl W (.cells #[.string (str x)] 9)
  have hsrc : Src Try.prog 1 26 (.slice (some ⟨W.heap.size, 0, none⟩) 1 1) 1 (svs [x]) (W.alloc (.cells #[.string (str x)] 9)) := by
    refine Src.ofSlice _ Try.underlying26 ⟨W.heap.size, 0, none⟩ 1 1 _ (by simp [svs]) (fun j u hu => ?_) (svs_one _)
    obtain ⟨hj, rfl⟩ := List.getElem?_eq_some_iff.1 hu
    have hj0 : j = 0 := by simp [svs] at hj; omega
    subst hj0
    rw [Addr.add_lit, cell_of_row _ _ _ _ _ _ (heap_alloc_last W _)]
    rfl
  have hsz := h.m.size
  obtain ⟨tv', W2, hr, ho2, hb2, hg2, hs2⟩ := app_str (ty := 26) (ht2.ext hx) hsrc (by simp; omega) (svs_one _) (by omega)
  have M2 : Mut (fun b => (Value.slice A xs.length c).ownBlock = some b) W W2 := (Mut.of_ext hx).trans (Mut.of_grown hg2 fun b hb => hb)
  have hstr : ∀ b, (Value.slice A xs.length c).ownBlock = some b → ∃ cs, W.heap[b]? = some (.cells cs 9 (0, 0)) := fun b hb => own_blk ht2 hb
  have key : ∀ (b : Nat) (o : Obj), W.heap[b]? = some o → (∀ cs, o ≠ .cells cs 9 (0, 0)) → W2.heap[b]? = some o := fun b o hb hk => (M2.block b (heap_lt hb) fun ht => by
    obtain ⟨cs, hc⟩ := hstr b ht
    rw [hb] at hc
    cases hc
    exact hk cs rfl).trans hb
  have ht3 := key _ _ ht1 (by intro cs e; cases e)
  have k3 := mut_setRow (S := fun i => i = w.heap.size) (w := W2) rfl #[tv']
  have M3 : Mut (fun b => (Value.slice A xs.length c).ownBlock = some b ∨ b = w.heap.size) W (W2.setRow w.heap.size #[tv']) := (M2.mono fun i hi => .inl hi).trans (k3.mono fun i hi => .inr hi)
  refine ⟨A, c, ht1, tv', W2, hr, ht3, ?_⟩
  obtain ⟨h1, h2⟩ := h.stay M3 (fun i o hi ho => by
    rcases hi with hi | rfl
    · obtain ⟨cs, hc⟩ := hstr i hi
      rw [hc] at ho
      cases ho
      exact rcn (by decide) (by decide)
    · rw [ht1] at ho
      cases ho
      exact rcn (by decide) (by decide)) (fun i hi => by
    rcases hi with hi | rfl
    · exact (own_lt ht2 hi).1
    · exact Nat.le_refl _)
  exact
    { rc := h1, m := h2
      hcb := (setRow_other _ _ _ _ (by omega)).trans (key _ _ h.hcb (by intro cs e; cases e))
      hrb := (setRow_other _ _ _ _ (by omega)).trans (key _ _ h.hrb (by intro cs e; cases e))
      ht := ⟨tv', setRow_heap _ _ _ _ _ _ ht3, by
        rw [List.length_append, svs_app]
        exact ho2.set ht3 (by decide)⟩
      hl := (setRow_other _ _ _ _ (by omega)).trans (key _ _ h.hl (by obtain ⟨r, rfl⟩ := h.ol; intro cs e; cases e))
      hD := (setRow_other _ _ _ _ (by omega)).trans (key _ _ h.hD (by intro cs e; cases e))
      ch := h.ch, cn := h.cn, ol := h.ol }
end
end Go.Proofs.Ytbbkailmlaffjaa
