/- Generic (x5, x6, x3): one-cell values, slices that can be read, rows of one's own, objects side by side. Much of it is taken over from XDkA, XDkC, XDkD, XDkG, XOb. No statement of its own. -/
import Derived.Test.YteahlnoonmfjhaaRowz
import Derived.Test.YteahlnoonmfjhaaCalmB
import Derived.Deep.DeepCutAuto
set_option linter.unusedVariables false
namespace Go.Proofs.Yteahlnoonmfjhaa
open Go.RowKit

def One (v : Value) : Prop := v.oneCell' = true
def bcs (l : List Bool) : List Value := l.map .bool
def ics (l : List Int) : List Value := l.map (.int .i64)
theorem bcs_one (l : List Bool) : ∀ u ∈ bcs l, One u := by
  intro u hu
  obtain ⟨b, _, rfl⟩ := List.mem_map.1 hu
  rfl
theorem ics_one (l : List Int) : ∀ u ∈ ics l, One u := by
  intro u hu
  obtain ⟨b, _, rfl⟩ := List.mem_map.1 hu
  rfl
theorem ics_length (l : List Int) : (ics l).length = l.length := by simp [ics]
theorem ics_app (l m : List Int) : ics (l ++ m) = ics l ++ ics m := by simp [ics]
theorem extAl (w : World) (o : Obj) : Ext w (w.alloc o) := (Below.refl _ w).alloc (Nat.le_refl _) o
/-- What a call may have changed, and made, of what belongs to S. -/
def gr (S : Nat → Prop) (w w' : World) : Nat → Prop := fun i => S i ∨ (w.heap.size ≤ i ∧ i < w'.heap.size)
theorem gr_ext {S : Nat → Prop} {a b c : World} (h : Ext a b) (hs : b.heap.size ≤ c.heap.size) : ∀ i, gr S b c i → gr S a c i := fun i hi => by
  have := Below.size h
  rcases hi with hi | hi
  · exact .inl hi
  · exact .inr (by omega)
theorem gr_mono {S : Nat → Prop} {a b c : World} (hs : b.heap.size ≤ c.heap.size) : ∀ i, gr S a b i → gr S a c i := fun i hi => by
  rcases hi with hi | hi
  · exact .inl hi
  · exact .inr (by omega)
theorem gr_gr {S : Nat → Prop} {a b c : World} (h1 : a.heap.size ≤ b.heap.size) (h2 : b.heap.size ≤ c.heap.size) : ∀ i, gr (gr S a b) b c i → gr S a c i := fun i hi => by
  rcases hi with (hi | hi) | hi
  · exact .inl hi
  · exact .inr (by omega)
  · exact .inr (by omega)
theorem mut_gr {S : Nat → Prop} {a b c : World} (h : Mut S a b) (k : Mut (gr S a b) b c) : Mut S a c :=
  ⟨h.os ▸ k.os, h.tape ▸ k.tape, h.output ▸ k.output, Nat.le_trans h.size k.size, fun i hi hn => (k.block i (Nat.lt_of_lt_of_le hi h.size) (by
    rintro (h1 | h1)
    · exact hn h1
    · omega)).trans (h.block i hi hn)⟩
theorem OwnR.set {w : World} {B g : Nat} {T T' : TypeId} {sz : Nat} {C : Value → Prop} {v : Value} {n : Nat} {cs : List Value} {row row' : Array Value} {fr : Nat × Nat} (h : OwnR w B T sz C v n cs) (hg : w.heap[g]? = some (.cells row T' fr)) (hT : T ≠ T') : OwnR (w.setRow g row') B T sz C v n cs := by
  obtain ⟨h0, h⟩ := h
  refine ⟨h0, h.imp id ?_⟩
  rintro ⟨g', c, junk, rfl, hB, hg', hc⟩
  refine ⟨g', c, junk, rfl, hB, ?_, hc⟩
  rw [setRow_other _ _ _ _ (fun e => by subst e; rw [hg] at hg'; simp at hg'; exact hT hg'.2.1.symm)]
  exact hg'
theorem OwnR.mutO {w w' : World} {S : Nat → Prop} {B : Nat} {T : TypeId} {sz : Nat} {C : Value → Prop} {v : Value} {n : Nat} {cs : List Value} (h : OwnR w B T sz C v n cs) (k : Mut S w w') (hn : ∀ b, v.ownBlock = some b → ¬ S b) : OwnR w' B T sz C v n cs := by
  obtain ⟨h0, h⟩ := h
  refine ⟨h0, h.imp id ?_⟩
  rintro ⟨g', c, junk, rfl, hB, hg', hc⟩
  exact ⟨g', c, junk, rfl, hB, (k.block g' (Array.getElem?_eq_some_iff.1 hg').1 (hn g' (by simp [Value.ownBlock]))).trans hg', hc⟩
theorem own_lt {w : World} {B b : Nat} {T : TypeId} {sz : Nat} {C : Value → Prop} {v : Value} {n : Nat} {cs : List Value} (h : OwnR w B T sz C v n cs) (hb : v.ownBlock = some b) : B ≤ b ∧ b < w.heap.size := by
  obtain ⟨_, ⟨rfl, _⟩ | ⟨g, c, junk, rfl, hB, hg, _⟩⟩ := h
  · simp [Value.ownBlock] at hb
  · obtain rfl : g = b := by simpa [Value.ownBlock] using hb
    exact ⟨hB, (Array.getElem?_eq_some_iff.1 hg).1⟩
theorem own_ne {w : World} {B g : Nat} {T T' : TypeId} {sz : Nat} {C : Value → Prop} {v : Value} {n : Nat} {cs : List Value} {row : Array Value} {fr : Nat × Nat} (h : OwnR w B T sz C v n cs) (hg : w.heap[g]? = some (.cells row T' fr)) (hT : T ≠ T') : v.ownBlock ≠ some g := by
  intro hb
  obtain ⟨_, ⟨rfl, _⟩ | ⟨g', c, junk, rfl, hB, hg', _⟩⟩ := h
  · simp [Value.ownBlock] at hb
  · obtain rfl : g' = g := by simpa [Value.ownBlock] using hb
    rw [hg] at hg'
    simp at hg'
    exact hT hg'.2.1.symm
theorem own_own {w : World} {B B' b : Nat} {T T' : TypeId} {sz sz' : Nat} {C C' : Value → Prop} {v v' : Value} {n n' : Nat} {cs cs' : List Value} (h : OwnR w B T sz C v n cs) (h' : OwnR w B' T' sz' C' v' n' cs') (hb : v.ownBlock = some b) (hb' : v'.ownBlock = some b) (hT : T ≠ T') : False := by
  obtain ⟨_, ⟨rfl, _⟩ | ⟨g', c, junk, rfl, hB, hg', _⟩⟩ := h
  · simp [Value.ownBlock] at hb
  · obtain rfl : g' = b := by simpa [Value.ownBlock] using hb
    exact own_ne h' hg' (Ne.symm hT) hb'
theorem mut_setRow {S : Nat → Prop} {w : World} {g : Nat} (h : S g) (row : Array Value) : Mut S w (w.setRow g row) :=
  ⟨rfl, rfl, rfl, by simp [World.setRow], fun i _ hn => setRow_other w g i _ fun e => hn (e ▸ h)⟩
theorem alloc_row0 (w : World) (T : TypeId) (B sz : Nat) (C : Value → Prop) (hB : B ≤ w.heap.size) : OwnR (w.alloc (.cells #[] T)) B T sz C (.slice (some ⟨w.heap.size, 0, none⟩) 0 0) 0 [] :=
  ⟨by simp, .inr ⟨w.heap.size, 0, [], rfl, hB, heap_alloc_last _ _, by simp, by simp⟩⟩
theorem info_prt {P : Program} {t : TypeId} {z : Value} {n m : Nat} (h : (P.info? t).map (fun i => (i.zero, i.size, i.bytes)) = some (some z, n, m)) : ∃ i, P.info? t = some i ∧ i.zero = some z ∧ i.size = n ∧ i.bytes = m := by
  cases hi : P.info? t with
  | none => rw [hi] at h; simp at h
  | some i =>
    rw [hi] at h
    simp only [Option.map_some, Option.some.injEq, Prod.mk.injEq] at h
    exact ⟨i, rfl, h.1, h.2.1, h.2.2⟩
theorem run_equalIn_slice_nil {P : Program} (w : World) (d : Nat) (t e : TypeId) (A : Option Addr) (n c : Nat) (h : P.underlying t = some (.slice e)) :
    (Op.equalIn (d + 1) t (.slice A n c) (.slice none 0 0)).run P w = .ok A.isNone w := by
  cases A <;> simp [Op.equalIn, run_underlying h]
theorem run_eql_slice_nil {P : Program} (w : World) (t e : TypeId) (A : Option Addr) (n c : Nat) (h : P.underlying t = some (.slice e)) :
    (binOp .eql t (.slice A n c) (.slice none 0 0)).run P w = .ok (.bool A.isNone) w := by
  simp only [binOp]
  simp [show Op.equal t (.slice A n c) (.slice none 0 0) = Op.equalIn (9999 + 1) t (.slice A n c) (.slice none 0 0) from rfl, run_equalIn_slice_nil w 9999 t e A n c h]

theorem loadAt_cs {P : Program} {w : World} {g off : Nat} {ty : TypeId} {fs : Array Field} {cs : List Value} (hu : P.underlying ty = some (.struct fs)) (hi : (P.info? ty).map (·.size) = some cs.length) (hc : ∀ j (h : j < cs.length), w.cell? ⟨g, off + j, none⟩ = some cs[j]) :
    (Instr.loadAt ty (.pointer (some ⟨g, off, none⟩))).run P w = .ok (.agg cs.toArray) w := by
  have hl : (loadCells ⟨g, off, none⟩ cs.length).run P w = .ok cs.toArray w :=
    run_loadCells_list (P := P) w ⟨g, off, none⟩ cs (fun j v hv => by
      rw [Addr.add_lit]
      have hj : j < cs.length := (List.getElem?_eq_some_iff.1 hv).1
      rw [hc j hj, ← hv]
      simp [hj])
  obtain ⟨i, hi', hs⟩ : ∃ i, P.info? ty = some i ∧ i.size = cs.length := by
    cases h : P.info? ty with
    | none => rw [h] at hi; simp at hi
    | some i => rw [h] at hi; exact ⟨i, rfl, by simpa using hi⟩
  simp only [Instr.loadAt, Instr.sureAddr, Sem.run_bind, Sem.run_pure, Result.andThen]
  simp [loadVar, isAgg, run_underlying hu, sizeOf, typeInfo, hi', hs, hl]

/-! Slices that can be read: n elements of sz cells each, these cells. -/
def RR (w : World) (sz : Nat) (v : Value) (n : Nat) (cs : List Value) : Prop :=
  cs.length = n * sz ∧ ((∃ A c, v = .slice A 0 c ∧ n = 0) ∨ ∃ b off c, v = .slice (some ⟨b, off, none⟩) n c ∧ b < w.heap.size ∧ n ≤ c ∧ ∀ j (h : j < cs.length), w.cell? ⟨b, off + j, none⟩ = some cs[j])
theorem RR.form {w : World} {sz : Nat} {v : Value} {n : Nat} {cs : List Value} (h : RR w sz v n cs) : ∃ A c, v = .slice A n c := by
  rcases h with ⟨_, ⟨A, c, rfl, rfl⟩ | ⟨b, off, c, rfl, _⟩⟩
  · exact ⟨A, c, rfl⟩
  · exact ⟨_, c, rfl⟩
theorem RR.mutO {S : Nat → Prop} {w w' : World} {sz : Nat} {v : Value} {n : Nat} {cs : List Value} (h : RR w sz v n cs) (k : Mut S w w') (hn : ∀ b off n c, v = .slice (some ⟨b, off, none⟩) n c → ¬ S b) : RR w' sz v n cs := by
  obtain ⟨h0, h | ⟨b, off, c, rfl, hb, hc, hj⟩⟩ := h
  · exact ⟨h0, .inl h⟩
  · exact ⟨h0, .inr ⟨b, off, c, rfl, Nat.lt_of_lt_of_le hb k.size, hc, fun j hjl => (k.cell hb (hn b off _ c rfl)).trans (hj j hjl)⟩⟩
theorem RR.ext {w w' : World} {sz : Nat} {v : Value} {n : Nat} {cs : List Value} (h : RR w sz v n cs) (k : Ext w w') : RR w' sz v n cs := h.mutO (S := fun _ => False) (Mut.of_ext k) fun _ _ _ _ _ h => h
theorem RR.below {w w' : World} {sz : Nat} {v : Value} {n : Nat} {cs : List Value} (h : RR w sz v n cs) (k : Below w.heap.size w w') : RR w' sz v n cs := h.ext k
/-- Its cells, where it holds something. -/
theorem RR.at {w : World} {sz : Nat} {A : Option Addr} {n c : Nat} {cs : List Value} (h : RR w sz (.slice A n c) n cs) (hn : 0 < n) :
    ∃ b off, A = some ⟨b, off, none⟩ ∧ b < w.heap.size ∧ n ≤ c ∧ ∀ j (h : j < cs.length), w.cell? ⟨b, off + j, none⟩ = some cs[j] := by
  obtain ⟨h0, ⟨A', c', he, hn0⟩ | ⟨b, off, c', he, hb, hc, hj⟩⟩ := h
  · omega
  · simp only [Value.slice.injEq] at he
    obtain ⟨rfl, -, rfl⟩ := he
    exact ⟨b, off, rfl, hb, hc, hj⟩
theorem OwnR.rr {w : World} {B : Nat} {T : TypeId} {sz : Nat} {C : Value → Prop} {v : Value} {n : Nat} {cs : List Value} (h : OwnR w B T sz C v n cs) (hs : 0 < sz) : RR w sz v n cs := by
  have h0 := h.1
  by_cases hn : n = 0
  · subst hn
    obtain ⟨A, c, rfl⟩ := h.form
    exact ⟨h0, .inl ⟨A, c, rfl, rfl⟩⟩
  · obtain ⟨A, c, rfl⟩ := h.form
    obtain ⟨g, rfl, _, hlt, hc, hj⟩ := h.cells (by omega)
    exact ⟨h0, .inr ⟨g, 0, c, rfl, hlt, hc hs, fun j hjl => by rw [Nat.zero_add]; exact hj j hjl⟩⟩
theorem RR.src {P : Program} {w : World} {sz : Nat} {v : Value} {n : Nat} {cs : List Value} {tx e' : TypeId} (h : RR w sz v n cs) (hk : P.underlying tx = some (.slice e')) (h1 : ∀ u ∈ cs, One u) : Src P sz tx v n cs w := by
  obtain ⟨h0, ⟨A, c, rfl, rfl⟩ | ⟨b, off, c, rfl, hb, hc, hj⟩⟩ := h
  · have hcs : cs = [] := List.length_eq_zero_iff.1 (by simpa using h0)
    subst hcs
    cases A with
    | none => exact Src.ofNil w hk c
    | some a => exact Src.ofSlice w hk a 0 c [] (by simp) (fun j u h => by simp at h) (fun u h => by simp at h)
  · refine Src.ofSlice w hk ⟨b, off, none⟩ _ c cs h0 (fun j u hu => ?_) h1
    rw [Addr.add_lit]
    obtain ⟨hjl, rfl⟩ := List.getElem?_eq_some_iff.1 hu
    exact hj j hjl
theorem RR.nil {w : World} {sz : Nat} : RR w sz (.slice none 0 0) 0 [] := ⟨by simp, .inl ⟨none, 0, rfl, rfl⟩⟩
/-- The k-th of elements of sz cells each. -/
theorem flat_at {α : Type} {enc : α → List Value} {sz : Nat} (he : ∀ x, (enc x).length = sz) : ∀ (l : List α) (k i : Nat) (x : α), l[k]? = some x → i < sz → (l.flatMap enc)[k * sz + i]? = (enc x)[i]?
  | [], k, i, x, h, _ => by simp at h
  | y :: l, 0, i, x, h, hi => by
    simp only [List.getElem?_cons_zero, Option.some.injEq] at h
    subst h
    rw [List.flatMap_cons, List.getElem?_append_left (by rw [he]; omega), Nat.zero_mul, Nat.zero_add]
  | y :: l, k + 1, i, x, h, hi => by
    simp only [List.getElem?_cons_succ] at h
    rw [List.flatMap_cons, List.getElem?_append_right (by rw [he]; have : (k + 1) * sz = k * sz + sz := Nat.succ_mul k sz; omega), he, show (k + 1) * sz + i - sz = k * sz + i by have : (k + 1) * sz = k * sz + sz := Nat.succ_mul k sz; omega]
    exact flat_at he l k i x h hi
theorem flat_length {α : Type} {enc : α → List Value} {sz : Nat} (he : ∀ x, (enc x).length = sz) : ∀ l : List α, (l.flatMap enc).length = l.length * sz
  | [] => by simp
  | y :: l => by rw [List.flatMap_cons, List.length_append, he, flat_length he l, List.length_cons, Nat.succ_mul]; omega
/-- A cell of an element. -/
theorem RR.cellAt {α : Type} {enc : α → List Value} {w : World} {sz b off c : Nat} {l : List α} (h : RR w sz (.slice (some ⟨b, off, none⟩) l.length c) l.length (l.flatMap enc)) (he : ∀ x, (enc x).length = sz) {k : Nat} {x : α} (hk : l[k]? = some x) {i : Nat} {v : Value} (hi : (enc x)[i]? = some v) : w.cell? ⟨b, off + (k * sz + i), none⟩ = some v := by
  have hkl := (List.getElem?_eq_some_iff.1 hk).1
  have hil := (List.getElem?_eq_some_iff.1 hi).1
  rw [he] at hil
  obtain ⟨b', off', hA, _, _, hj⟩ := h.at (by omega)
  simp only [Option.some.injEq, Addr.mk.injEq, and_true] at hA
  obtain ⟨rfl, rfl⟩ := hA
  have h1 := flat_at he l k i x hk hil
  rw [hi] at h1
  obtain ⟨h2, h3⟩ := List.getElem?_eq_some_iff.1 h1
  rw [hj _ h2, h3]
theorem ics_flat (l : List Int) : ics l = l.flatMap fun x => [.int .i64 x] := by induction l <;> simp_all [ics]

/-! Objects side by side. Blocks that are Z are never written again: objects may share them. -/
structure Ob (Z : Obj → Prop) where
  is : World → (Nat → Prop) → Prop
  K : Obj → Prop
  mutw : ∀ {w w' : World} {S T : Nat → Prop}, is w S → Mut T w w' → (∀ i, S i → ¬ T i) → (∀ i o, T i → w.heap[i]? = some o → ¬ Z o) → is w' S
  mono : ∀ {w : World} {S S' : Nat → Prop}, is w S → (∀ i, S i → S' i) → is w S'
  trim : ∀ {w : World} {S : Nat → Prop}, is w S → is w (fun i => S i ∧ ∃ o, w.heap[i]? = some o ∧ K o)
  kz : ∀ o, K o → ¬ Z o
section
variable {Z : Obj → Prop}
/-- A call on what belongs to S makes D of it. -/
def To (S : Nat → Prop) (w w' : World) (D : Ob Z) : Prop := D.is w' (gr S w w') ∧ Mut S w w'
theorem To.after_ext {S : Nat → Prop} {a b c : World} {D : Ob Z} (h : Ext a b) (k : To S b c D) : To S a c D := ⟨D.mono k.1 (gr_ext h k.2.size), (Mut.of_ext h).trans k.2⟩
theorem To.trans {S : Nat → Prop} {a b c : World} {D D' : Ob Z} (h : To S a b D) (k : To (gr S a b) b c D') : To S a c D' := ⟨D'.mono k.1 (gr_gr h.2.size k.2.size), mut_gr h.2 k.2⟩
theorem Ob.ext (D : Ob Z) {w w' : World} {S : Nat → Prop} (h : D.is w S) (k : Ext w w') : D.is w' S := D.mutw h (T := fun _ => False) (Mut.of_ext k) (fun _ _ h => h) fun _ _ h => h.elim
theorem To.then_ext {S : Nat → Prop} {a b c : World} {D : Ob Z} (h : To S a b D) (k : Ext b c) : To S a c D := ⟨D.mono (D.ext h.1 k) (gr_mono k.size), h.2.trans (Mut.of_ext k)⟩
theorem To.of_ext {S : Nat → Prop} {w w' : World} {D : Ob Z} (h : D.is w S) (k : Ext w w') : To S w w' D := ⟨D.mono (D.ext h k) fun i hi => .inl hi, Mut.of_ext k⟩
theorem To.refl {S : Nat → Prop} {w : World} {D : Ob Z} (h : D.is w S) : To S w w D := To.of_ext h (Ext.refl w)
/-- Objects that have nothing in common, and nothing with L. -/
def ObsF (L : Nat → Prop) (w : World) : List (Ob Z) → Prop
  | [] => True
  | D :: l => ∃ S, D.is w S ∧ (∀ k, S k → ¬ L k ∧ ∃ o, w.heap[k]? = some o ∧ D.K o) ∧ ObsF (fun k => L k ∨ S k) w l
theorem heap_lt {w : World} {k : Nat} {o : Obj} (h : w.heap[k]? = some o) : k < w.heap.size := (Array.getElem?_eq_some_iff.1 h).1
theorem ObsF.mono : ∀ {l : List (Ob Z)} {L L' : Nat → Prop} {w : World}, ObsF L w l → (∀ k, L' k → L k ∨ w.heap.size ≤ k) → ObsF L' w l
  | [], _, _, _, _, _ => trivial
  | D :: l, L, L', w, ⟨S, h1, h2, h3⟩, k => ⟨S, h1, fun i hi => ⟨fun hl => by
      obtain ⟨o, ho, _⟩ := (h2 i hi).2
      rcases k i hl with h | h
      · exact (h2 i hi).1 h
      · have := heap_lt ho; omega, (h2 i hi).2⟩, h3.mono fun i hi => by
      rcases hi with hi | hi
      · rcases k i hi with h | h
        · exact .inl (.inl h)
        · exact .inr h
      · exact .inl (.inr hi)⟩
theorem ObsF.out : ∀ {l : List (Ob Z)} {L T : Nat → Prop} {w w' : World}, ObsF L w l → Mut T w w' → (∀ i, T i → L i) → (∀ i o, T i → w.heap[i]? = some o → ¬ Z o) → ObsF L w' l
  | [], _, _, _, _, _, _, _, _ => trivial
  | D :: l, L, T, w, w', ⟨S, h1, h2, h3⟩, k, hT, hz => ⟨S, D.mutw h1 k (fun i hi ht => (h2 i hi).1 (hT i ht)) hz, fun i hi => ⟨(h2 i hi).1, by
      obtain ⟨o, ho, hk⟩ := (h2 i hi).2
      exact ⟨o, (k.block i (heap_lt ho) fun ht => (h2 i hi).1 (hT i ht)).trans ho, hk⟩⟩, h3.out k (fun i hi => .inl (hT i hi)) hz⟩
theorem ObsF.pick : ∀ {l : List (Ob Z)} {L : Nat → Prop} {w : World} {i : Nat} {D : Ob Z}, ObsF L w l → (∀ k, L k → k < w.heap.size) → l[i]? = some D →
    ∃ S, D.is w S ∧ (∀ k, S k → ¬ L k ∧ ∃ o, w.heap[k]? = some o ∧ D.K o) ∧ ∀ w' (D' : Ob Z) (R : Nat → Prop), To S w w' D' → (∀ k, R k → w.heap.size ≤ k ∧ ∀ o, w'.heap[k]? = some o → ¬ D'.K o) → ObsF (fun k => L k ∨ R k) w' (l.set i D')
  | D0 :: l, L, w, 0, D, ⟨S, h1, h2, h3⟩, hL, hi => by
    simp only [List.getElem?_cons_zero, Option.some.injEq] at hi
    subst hi
    refine ⟨S, h1, h2, fun w' D' R ⟨h4, h5⟩ hR => ⟨_, D'.trim h4, fun k hk => ?_, ?_⟩⟩
    · obtain ⟨hk, o, ho, hko⟩ := hk
      refine ⟨?_, o, ho, hko⟩
      rintro (hl | hr)
      · rcases hk with hk | hk
        · exact (h2 k hk).1 hl
        · have := hL k hl; omega
      · exact (hR k hr).2 o ho hko
    · have q1 := h3.mono (L' := fun k => (L k ∨ S k) ∨ w.heap.size ≤ k) fun k hk => hk
      have q2 := q1.out h5 (fun i hi => .inl (.inr hi)) (fun i o hi ho => by
        obtain ⟨o', ho', hk⟩ := (h2 i hi).2
        rw [ho] at ho'
        cases ho'
        exact D0.kz o hk)
      refine q2.mono fun k hk => ?_
      rcases hk with (hk | hk) | ⟨hk | hk, _⟩
      · exact .inl (.inl (.inl hk))
      · exact .inl (.inr (hR k hk).1)
      · exact .inl (.inl (.inr hk))
      · exact .inl (.inr hk.1)
  | D0 :: l, L, w, i + 1, D, ⟨S, h1, h2, h3⟩, hL, hi => by
    simp only [List.getElem?_cons_succ] at hi
    obtain ⟨S', k1, k2, k3⟩ := h3.pick (fun k hk => hk.elim (hL k) fun hs => heap_lt (h2 k hs).2.choose_spec.1) hi
    refine ⟨S', k1, fun k hk => ⟨fun hl => (k2 k hk).1 (.inl hl), (k2 k hk).2⟩, fun w' D' R h hR => ⟨S, D0.mutw h1 h.2 (fun k hk hs => (k2 k hs).1 (.inr hk)) (fun i o hi ho => ?_), fun k hk => ⟨?_, ?_⟩, (k3 w' D' R h hR).mono fun k hk => ?_⟩⟩
    · obtain ⟨o', ho', hk⟩ := (k2 i hi).2
      rw [ho] at ho'
      cases ho'
      exact D.kz o hk
    · obtain ⟨o, ho, _⟩ := (h2 k hk).2
      rintro (hl | hr)
      · exact (h2 k hk).1 hl
      · have := heap_lt ho
        have := (hR k hr).1
        omega
    · obtain ⟨o, ho, hko⟩ := (h2 k hk).2
      exact ⟨o, (h.2.block k (heap_lt ho) fun hs => (k2 k hs).1 (.inr hk)).trans ho, hko⟩
    · rcases hk with (hk | hk) | hk
      · exact .inl (.inl (.inl hk))
      · exact .inl (.inr hk)
      · exact .inl (.inl (.inr hk))
theorem ObsF.eraseIdx : ∀ {l : List (Ob Z)} {L : Nat → Prop} {w : World} (i : Nat), ObsF L w l → ObsF L w (l.eraseIdx i)
  | [], _, _, _, _ => trivial
  | D :: l, L, w, 0, ⟨S, _, _, h3⟩ => h3.mono fun _ hk => .inl (.inl hk)
  | D :: l, L, w, i + 1, ⟨S, h1, h2, h3⟩ => ⟨S, h1, h2, h3.eraseIdx i⟩
/-- A block as an object. -/
def rowOb (b : Nat) (o : Obj) (hz : ¬ Z o) : Ob Z where
  is := fun w S => w.heap[b]? = some o ∧ S b
  K := fun o' => o' = o
  mutw := fun h k hd _ => ⟨(k.block b (heap_lt h.1) (hd b h.2)).trans h.1, h.2⟩
  mono := fun h k => ⟨h.1, k _ h.2⟩
  trim := fun h => ⟨h.1, h.2, o, h.1, rfl⟩
  kz := fun o' h => h ▸ hz

/-- What is there since W: objects side by side. -/
structure OSt (W : World) (ds : List (Ob Z)) (w : World) : Prop where
  bel : Below W.heap.size W w
  dks : ObsF (fun k => k < W.heap.size) w ds
theorem OSt.start (W : World) : OSt (Z := Z) W [] W := ⟨Below.refl _ _, trivial⟩
theorem OSt.lt {W w : World} {ds : List (Ob Z)} (h : OSt W ds w) : ∀ k, k < W.heap.size → k < w.heap.size := fun k hk => Nat.lt_of_lt_of_le hk h.bel.size
theorem OSt.ext {W w w' : World} {ds : List (Ob Z)} (h : OSt W ds w) (k : Ext w w') : OSt W ds w' :=
  ⟨h.bel.trans (k.mono h.bel.size), h.dks.out (T := fun _ => False) (Mut.of_ext k) (fun _ h => h.elim) fun _ _ h => h.elim⟩
theorem OSt.dropI {W w : World} {ds : List (Ob Z)} (h : OSt W ds w) (i : Nat) : OSt W (ds.eraseIdx i) w := ⟨h.bel, h.dks.eraseIdx i⟩
theorem OSt.pick {W w : World} {ds : List (Ob Z)} (h : OSt W ds w) {i : Nat} {D : Ob Z} (hi : ds[i]? = some D) :
    ∃ S, D.is w S ∧ (∀ k, S k → W.heap.size ≤ k ∧ ∃ o, w.heap[k]? = some o ∧ D.K o) ∧ (∀ w' (D' : Ob Z), To S w w' D' → OSt W (ds.set i D') w') ∧
      ∀ w' (D' E : Ob Z) (R : Nat → Prop), To S w w' D' → E.is w' R → (∀ k, R k → w.heap.size ≤ k ∧ ∃ o, w'.heap[k]? = some o ∧ E.K o ∧ ¬ D'.K o) → OSt W (E :: ds.set i D') w' := by
  obtain ⟨S, h1, h2, h3⟩ := h.dks.pick h.lt hi
  have hbel : ∀ w' (D' : Ob Z), To S w w' D' → Below W.heap.size W w' := fun w' D' hT => h.bel.trans (hT.2.below (fun i hi => by have := (h2 i hi).1; omega) h.bel.size)
  refine ⟨S, h1, fun k hk => ⟨by have := (h2 k hk).1; omega, (h2 k hk).2⟩, fun w' D' hT => ⟨hbel w' D' hT, (h3 w' D' (fun _ => False) hT fun k hk => hk.elim).mono fun k hk => .inl (.inl hk)⟩, fun w' D' E R hT hE hR => ⟨hbel w' D' hT, R, hE, fun k hk => ?_, h3 w' D' R hT fun k hk => ?_⟩⟩
  · obtain ⟨h4, o, ho, hk1, hk2⟩ := hR k hk
    exact ⟨by have := h.bel.size; omega, o, ho, hk1⟩
  · obtain ⟨h4, o, ho, hk1, hk2⟩ := hR k hk
    exact ⟨h4, fun o' ho' => by rw [ho] at ho'; cases ho'; exact hk2⟩
/-- One object more. -/
theorem OSt.push {W w w' : World} {ds : List (Ob Z)} (h : OSt W ds w) {D : Ob Z} (k : Ext w w') {R : Nat → Prop} (hd : D.is w' R) (hR : ∀ i, R i → w.heap.size ≤ i) : OSt W (D :: ds) w' := by
  have h' := h.ext k
  refine ⟨h'.bel, _, D.trim hd, fun i hi => ⟨fun hl => ?_, hi.2⟩, ?_⟩
  · have := h.lt i hl
    have := hR i hi.1
    omega
  · refine (h.dks.mono (L' := fun i => i < W.heap.size ∨ (w.heap.size ≤ i)) fun i hi => hi).out (T := fun _ => False) (Mut.of_ext k) (fun _ h => h.elim) (fun _ _ h => h.elim) |>.mono fun i hi => ?_
    rcases hi with hi | hi
    · exact .inl (.inl hi)
    · exact .inl (.inr (hR i hi.1))
theorem OSt.pushN {W w w' : World} {ds : List (Ob Z)} (h : OSt W ds w) {D : Ob Z} (k : Ext w w') (hd : D.is w' (fun i => w.heap.size ≤ i ∧ i < w'.heap.size)) : OSt W (D :: ds) w' := h.push k hd fun _ hi => hi.1
theorem OSt.alloc {W w : World} {ds : List (Ob Z)} (h : OSt W ds w) (o : Obj) (hz : ¬ Z o) : OSt W (rowOb w.heap.size o hz :: ds) (w.alloc o) :=
  h.push (extAl w o) (R := fun i => i = w.heap.size) ⟨heap_alloc_last _ _, rfl⟩ fun i hi => Nat.le_of_eq hi.symm
theorem OSt.get {W w : World} {ds : List (Ob Z)} (h : OSt W ds w) (i : Nat) {b : Nat} {o : Obj} {hz : ¬ Z o} (hi : ds[i]? = some (rowOb b o hz)) : w.heap[b]? = some o := by
  obtain ⟨S, h1, _⟩ := h.pick hi
  exact h1.1
/-- A row of one's own is written. -/
theorem OSt.row {W w : World} {ds : List (Ob Z)} (h : OSt W ds w) (i : Nat) {g : Nat} {old : Array Value} {T : TypeId} {hz : ¬ Z (.cells old T (0, 0))} (hi : ds[i]? = some (rowOb g (.cells old T (0, 0)) hz)) (new : Array Value) (hz' : ¬ Z (.cells new T (0, 0))) :
    OSt W (ds.set i (rowOb g (.cells new T (0, 0)) hz')) (w.setRow g new) := by
  obtain ⟨S, h1, _, h3, _⟩ := h.pick hi
  exact h3 _ _ ⟨⟨setRow_heap _ _ _ _ _ _ h1.1, .inl h1.2⟩, mut_setRow h1.2 _⟩
end
end Go.Proofs.Yteahlnoonmfjhaa
