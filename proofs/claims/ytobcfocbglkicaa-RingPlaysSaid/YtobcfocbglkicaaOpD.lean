/- Generic (from XGen and XOpen, for the seat of disks): slices that can be read; slices of structs among a law's arguments; slices of truth values among their fields. No statement of its own. -/
import Derived.Test.YtobcfocbglkicaaObK
import Derived.Test.YtobcfocbglkicaaLiftB
import Derived.Deep.Matrix
set_option linter.unusedVariables false
set_option maxRecDepth 100000
namespace Go.Proofs.Ytobcfocbglkicaa
section
open Go.RowKit

/-! Slices that can be read: n elements of sz cells each, these cells. -/
def RR (w : World) (sz : Nat) (v : Value) (n : Nat) (cs : List Value) : Prop :=
  cs.length = n * sz ∧ ((∃ A c, v = .slice A 0 c ∧ n = 0) ∨ ∃ b off c, v = .slice (some ⟨b, off, none⟩) n c ∧ b < w.heap.size ∧ n ≤ c ∧ ∀ j (h : j < cs.length), w.cell? ⟨b, off + j, none⟩ = some cs[j])
theorem RR.form {w : World} {sz : Nat} {v : Value} {n : Nat} {cs : List Value} (h : RR w sz v n cs) : ∃ A c, v = .slice A n c := by
  rcases h with ⟨_, ⟨A, c, rfl, rfl⟩ | ⟨b, off, c, rfl, _⟩⟩
  · exact ⟨A, c, rfl⟩
  · exact ⟨_, c, rfl⟩
theorem RR.mutO {S : Nat → Prop} {w w' : World} {sz : Nat} {v : Value} {n : Nat} {cs : List Value} (h : RR w sz v n cs) (k : Mut S w w') (hn : ∀ b off n c, v = .slice (some ⟨b, off, none⟩) n c → ¬ S b) : RR w' sz v n cs := by
  obtain ⟨h0, h | ⟨b, off, c, rfl, hb, hc, hj⟩⟩ := h
  · exact ⟨h0, .inl h⟩
  · exact ⟨h0, .inr ⟨b, off, c, rfl, Nat.lt_of_lt_of_le hb k.size, hc, fun j hjl => (k.cell hb (hn b off _ c rfl)).trans (hj j hjl)⟩⟩
theorem RR.ext {w w' : World} {sz : Nat} {v : Value} {n : Nat} {cs : List Value} (h : RR w sz v n cs) (k : Ext w w') : RR w' sz v n cs := h.mutO (S := fun _ => False) (Mut.of_ext k) fun _ _ _ _ _ h => h
theorem RR.below {w w' : World} {sz : Nat} {v : Value} {n : Nat} {cs : List Value} (h : RR w sz v n cs) (k : Below w.heap.size w w') : RR w' sz v n cs := h.ext k
/-- Its cells, where it holds something. -/
theorem RR.at {w : World} {sz : Nat} {A : Option Addr} {n c : Nat} {cs : List Value} (h : RR w sz (.slice A n c) n cs) (hn : 0 < n) :
    ∃ b off, A = some ⟨b, off, none⟩ ∧ b < w.heap.size ∧ n ≤ c ∧ ∀ j (h : j < cs.length), w.cell? ⟨b, off + j, none⟩ = some cs[j] := by
  obtain ⟨h0, ⟨A', c', he, hn0⟩ | ⟨b, off, c', he, hb, hc, hj⟩⟩ := h
  · omega
  · simp only [Value.slice.injEq] at he
    obtain ⟨rfl, -, rfl⟩ := he
    exact ⟨b, off, rfl, hb, hc, hj⟩
theorem OwnR.rr {w : World} {B : Nat} {T : TypeId} {sz : Nat} {C : Value → Prop} {v : Value} {n : Nat} {cs : List Value} (h : OwnR w B T sz C v n cs) (hs : 0 < sz) : RR w sz v n cs := by
  have h0 := h.1
  by_cases hn : n = 0
  · subst hn
    obtain ⟨A, c, rfl⟩ := h.form
    exact ⟨h0, .inl ⟨A, c, rfl, rfl⟩⟩
  · obtain ⟨A, c, rfl⟩ := h.form
    obtain ⟨g, rfl, _, hlt, hc, hj⟩ := h.cells (by omega)
    exact ⟨h0, .inr ⟨g, 0, c, rfl, hlt, hc hs, fun j hjl => by rw [Nat.zero_add]; exact hj j hjl⟩⟩
theorem RR.src {P : Program} {w : World} {sz : Nat} {v : Value} {n : Nat} {cs : List Value} {tx e' : TypeId} (h : RR w sz v n cs) (hk : P.underlying tx = some (.slice e')) (h1 : ∀ u ∈ cs, One u) : Src P sz tx v n cs w := by
  obtain ⟨h0, ⟨A, c, rfl, rfl⟩ | ⟨b, off, c, rfl, hb, hc, hj⟩⟩ := h
  · have hcs : cs = [] := List.length_eq_zero_iff.1 (by simpa using h0)
    subst hcs
    cases A with
    | none => exact Src.ofNil w hk c
    | some a => exact Src.ofSlice w hk a 0 c [] (by simp) (fun j u h => by simp at h) (fun u h => by simp at h)
  · refine Src.ofSlice w hk ⟨b, off, none⟩ _ c cs h0 (fun j u hu => ?_) h1
    rw [Addr.add_lit]
    obtain ⟨hjl, rfl⟩ := List.getElem?_eq_some_iff.1 hu
    exact hj j hjl
theorem RR.nil {w : World} {sz : Nat} : RR w sz (.slice none 0 0) 0 [] := ⟨by simp, .inl ⟨none, 0, rfl, rfl⟩⟩
/-- The k-th of elements of sz cells each. -/
theorem flat_at {α : Type} {enc : α → List Value} {sz : Nat} (he : ∀ x, (enc x).length = sz) : ∀ (l : List α) (k i : Nat) (x : α), l[k]? = some x → i < sz → (l.flatMap enc)[k * sz + i]? = (enc x)[i]?
  | [], k, i, x, h, _ => by simp at h
  | y :: l, 0, i, x, h, hi => by
    simp only [List.getElem?_cons_zero, Option.some.injEq] at h
    subst h
    rw [List.flatMap_cons, List.getElem?_append_left (by rw [he]; omega), Nat.zero_mul, Nat.zero_add]
  | y :: l, k + 1, i, x, h, hi => by
    simp only [List.getElem?_cons_succ] at h
    rw [List.flatMap_cons, List.getElem?_append_right (by rw [he]; have : (k + 1) * sz = k * sz + sz := Nat.succ_mul k sz; omega), he, show (k + 1) * sz + i - sz = k * sz + i by have : (k + 1) * sz = k * sz + sz := Nat.succ_mul k sz; omega]
    exact flat_at he l k i x h hi
theorem flat_length {α : Type} {enc : α → List Value} {sz : Nat} (he : ∀ x, (enc x).length = sz) : ∀ l : List α, (l.flatMap enc).length = l.length * sz
  | [] => by simp
  | y :: l => by rw [List.flatMap_cons, List.length_append, he, flat_length he l, List.length_cons, Nat.succ_mul]; omega
/-- A cell of an element. -/
theorem RR.cellAt {α : Type} {enc : α → List Value} {w : World} {sz b off c : Nat} {l : List α} (h : RR w sz (.slice (some ⟨b, off, none⟩) l.length c) l.length (l.flatMap enc)) (he : ∀ x, (enc x).length = sz) {k : Nat} {x : α} (hk : l[k]? = some x) {i : Nat} {v : Value} (hi : (enc x)[i]? = some v) : w.cell? ⟨b, off + (k * sz + i), none⟩ = some v := by
  have hkl := (List.getElem?_eq_some_iff.1 hk).1
  have hil := (List.getElem?_eq_some_iff.1 hi).1
  rw [he] at hil
  obtain ⟨b', off', hA, _, _, hj⟩ := h.at (by omega)
  simp only [Option.some.injEq, Addr.mk.injEq, and_true] at hA
  obtain ⟨rfl, rfl⟩ := hA
  have h1 := flat_at he l k i x hk hil
  rw [hi] at h1
  obtain ⟨h2, h3⟩ := List.getElem?_eq_some_iff.1 h1
  rw [hj _ h2, h3]
end
section
open Go.RowKit Go.ChangeShapes Go.WideShapes Go.ChangeAt Go.Deep

theorem list_of {α : Type} {Q : Nat → α → Prop} : ∀ n, (∀ i, i < n → ∃ x, Q i x) → ∃ l : List α, l.length = n ∧ ∀ i x, l[i]? = some x → Q i x
  | 0, _ => ⟨[], rfl, fun i x h => by simp at h⟩
  | n + 1, h => by
    obtain ⟨l, hl, hq⟩ := list_of n fun i hi => h i (by omega)
    obtain ⟨x, hx⟩ := h n (by omega)
    refine ⟨l ++ [x], by simp [hl], fun i y hy => ?_⟩
    by_cases hi : i < l.length
    · rw [List.getElem?_append_left hi] at hy
      exact hq i y hy
    · rw [List.getElem?_append_right (by omega)] at hy
      have h1 := (List.getElem?_eq_some_iff.1 hy).1
      simp at h1
      obtain rfl : i = n := by omega
      rw [hl] at hy
      simp at hy
      subst hy
      exact hx
section
variable {H : Type} {enc' : TypeId × Value → H} {P : Program} {w : World} {base : Nat} {spare : Nat → Bool} {held : Bool}
theorem open_slice_fields {t e : TypeId} {fs : Array Field} {fuel : Nat} {cs : List Value} {x : DataW H × List MemPlace} (ht : P.underlying t = some (.slice e)) (he : P.underlying e = some (.struct fs))
    (hone : oneCellFields P fs = true) (hC : P.cellsOf e = fs.size) (h : DataW.trod enc' P w base spare held fuel t cs = some x) :
    (cs = [.slice none 0 0]) ∨
    ∃ (a : Addr) (len cap : Nat), cs = [.slice (some a) len cap] ∧ len ≤ cap ∧ cap ≤ maxLen ∧
      ∀ i, i < len → ∀ (j : Nat) (f : Field), fs[j]? = some f → ∃ (v : Value) (y : DataW H × List MemPlace) (n : Nat), w.cell? (a.add (i * fs.size + j)) = some v ∧ DataW.trod enc' P w base spare held n f.type [v] = some y := by
  rcases open_slice ht h with h0 | ⟨a, len, cap, m, n, D, Pl, hcs, hb, hl, hm, hmm, hx, hi⟩
  · exact .inl h0.1
  · refine .inr ⟨a, len, cap, hcs, hl, hm, fun i hil => ?_⟩
    obtain ⟨cs', hc, ht'⟩ := hi i (by rw [hmm]; split <;> omega)
    rw [hC] at hc
    obtain ⟨ys, n', hn', hy, hlen, hyl, hf⟩ := DataW.trod_struct he ht'
    obtain ⟨_, hcl, hat⟩ := World.cells?_some hc
    intro j f hj
    obtain ⟨ho, hk⟩ := hone_of hone j f hj
    have hjl : j < fs.size := (Array.getElem?_eq_some_iff.1 hj).1
    have hcell := hat j hjl
    have hv : cs'[j]? = some (cs'[j]'(by omega)) := List.getElem?_eq_getElem (by omega)
    have h1 := hf j f hj
    rw [ho, hk] at h1
    have hone' : (cs'.drop j).take 1 = [cs'[j]'(by omega)] := by
      rw [List.drop_eq_getElem_cons (by omega)]
      rfl
    rw [hone'] at h1
    have hys : ys[j]? = some (ys[j]'(by omega)) := List.getElem?_eq_getElem (by omega)
    refine ⟨_, _, _, ?_, h1.trans hys⟩
    rw [← Go.Deep.add_add, hcell, hv]
/-- Rows of structs of one-cell fields. -/
theorem open_rows {α : Type} {enc : α → List Value} {R : α → Prop} {t e : TypeId} {fs : Array Field} {fuel : Nat} {v : Value} {x : DataW H × List MemPlace} (ht : P.underlying t = some (.slice e)) (he : P.underlying e = some (.struct fs))
    (hone : oneCellFields P fs = true) (hC : P.cellsOf e = fs.size) (hne : 0 < fs.size) (hen : ∀ x, (enc x).length = fs.size)
    (hk : ∀ cell : Nat → Value, (∀ (j : Nat) (f : Field), fs[j]? = some f → ∃ (y : DataW H × List MemPlace) (n : Nat), DataW.trod enc' P w base spare held n f.type [cell j] = some y) → ∃ x, (∀ j, j < fs.size → (enc x)[j]? = some (cell j)) ∧ R x)
    (h : DataW.trod enc' P w base spare held fuel t [v] = some x) : ∃ l : List α, RR w fs.size v l.length (l.flatMap enc) ∧ (∀ x ∈ l, R x) ∧ l.length ≤ maxLen := by
  rcases open_slice_fields ht he hone hC h with h0 | ⟨a, len, cap, hcs, hl, hm, hi⟩
  · simp only [List.cons.injEq, and_true] at h0
    subst h0
    exact ⟨[], ⟨by simp, .inl ⟨none, 0, rfl, rfl⟩⟩, fun x h => by simp at h, Nat.zero_le _⟩
  · simp only [List.cons.injEq, and_true] at hcs
    subst hcs
    obtain ⟨l, hll, hq⟩ := list_of (Q := fun i x => (∀ j, j < fs.size → w.cell? (a.add (i * fs.size + j)) = (enc x)[j]?) ∧ R x) len fun i hil => by
      have h1 := hi i hil
      have h2 : ∀ j : Nat, ∃ v : Value, ∀ f, fs[j]? = some f → w.cell? (a.add (i * fs.size + j)) = some v ∧ ∃ (y : DataW H × List MemPlace) (n : Nat), DataW.trod enc' P w base spare held n f.type [v] = some y := fun j => by
        cases hf : fs[j]? with
        | none => exact ⟨undef, fun f h => by cases h⟩
        | some f =>
          obtain ⟨v, y, n, h3, h4⟩ := h1 j f hf
          exact ⟨v, fun f' h => by cases h; exact ⟨h3, y, n, h4⟩⟩
      obtain ⟨x, hx, hR⟩ := hk (fun j => (h2 j).choose) fun j f hf => ((h2 j).choose_spec f hf).2
      refine ⟨x, fun j hj => ?_, hR⟩
      rw [hx j hj]
      exact ((h2 j).choose_spec fs[j] (Array.getElem?_eq_getElem hj)).1
    subst hll
    have hlen := flat_length hen l
    refine ⟨l, ⟨hlen, ?_⟩, fun x hx => ?_, by omega⟩
    · by_cases h0 : l.length = 0
      · exact .inl ⟨some a, cap, by rw [h0], h0⟩
      · obtain ⟨b, off, spot⟩ := a
        have hx0 : l[0]? = some l[0] := List.getElem?_eq_getElem (by omega)
        have hc0 := (hq 0 _ hx0).1 0 hne
        rw [List.getElem?_eq_getElem (by rw [hen]; exact hne)] at hc0
        have hs : spot = none := by simpa [Addr.add] using World.cell?_spot hc0
        subst hs
        rw [Addr.add_lit] at hc0
        have hlt : b < w.heap.size := by
          unfold World.cell? at hc0
          cases hb : w.heap[b]? with
          | none => simp [hb] at hc0
          | some o => exact (Array.getElem?_eq_some_iff.1 hb).1
        refine .inr ⟨b, off, cap, rfl, hlt, hl, fun j hj => ?_⟩
        have hjd := Nat.div_add_mod j fs.size
        have hml := Nat.mod_lt j hne
        have hdl : j / fs.size < l.length := by
          rw [hlen] at hj
          exact Nat.div_lt_of_lt_mul (by rw [Nat.mul_comm]; exact hj)
        have hxk : l[j / fs.size]? = some l[j / fs.size] := List.getElem?_eq_getElem hdl
        have h1 := (hq _ _ hxk).1 (j % fs.size) hml
        rw [Addr.add_lit, Nat.mul_comm, hjd] at h1
        rw [h1]
        have h2 := flat_at hen l (j / fs.size) (j % fs.size) _ hxk hml
        rw [Nat.mul_comm, hjd, List.getElem?_eq_getElem hj] at h2
        exact h2.symm
    · obtain ⟨i, hil, rfl⟩ := List.getElem_of_mem hx
      exact (hq i _ (List.getElem?_eq_getElem hil)).2
end
theorem weights_in {H : Type} {P : Program} : ∀ {ts : List TypeId} {ds : List (DataW H)} {j : Nat} {t : TypeId} {d : DataW H} {k : Nat}, ts[j]? = some t → ds[j]? = some d → k ∈ d.weights P t → k ∈ DataW.weightsEach P ts ds
  | t0 :: ts, d0 :: ds, 0, t, d, k, ht, hd, hk => by
    simp only [List.getElem?_cons_zero, Option.some.injEq] at ht hd
    subst ht hd
    simp only [DataW.weightsEach, List.mem_append]
    exact .inl hk
  | t0 :: ts, d0 :: ds, j + 1, t, d, k, ht, hd, hk => by
    simp only [DataW.weightsEach, List.mem_append]
    exact .inr (weights_in (by simpa using ht) (by simpa using hd) hk)
  | [], _, _, _, _, _, ht, _, _ => by simp at ht
  | _ :: _, [], _, _, _, _, _, hd, _ => by simp at hd
theorem weights_app {H : Type} {P : Program} : ∀ {ts ts' : List TypeId} {ds ds' : List (DataW H)} {k : Nat}, k ∈ DataW.weightsEach P ts ds → k ∈ DataW.weightsEach P (ts ++ ts') (ds ++ ds')
  | t0 :: ts, ts', d0 :: ds, ds', k, hk => by
    simp only [DataW.weightsEach, List.mem_append, List.cons_append] at hk ⊢
    exact hk.imp id weights_app
  | [], _, _, _, _, hk => by simp [DataW.weightsEach] at hk
  | _ :: _, _, [], _, _, hk => by simp [DataW.weightsEach] at hk
theorem weightsAll_in {H : Type} {P : Program} {e : TypeId} : ∀ {l : List (DataW H)} {d : DataW H} {q : Nat}, d ∈ l → q ∈ d.weights P e → q ∈ DataW.weightsAll P e l
  | d0 :: l, d, q, hd, hq => by
    simp only [DataW.weightsAll, List.mem_append]
    rcases List.mem_cons.1 hd with rfl | hd
    · exact .inl hq
    · exact .inr (weightsAll_in hd hq)
  | [], d, q, hd, hq => by simp at hd
section
variable {H : Type} {enc' : TypeId × Value → H} {P : Program} {w : World} {base : Nat} {spare : Nat → Bool} {held : Bool}
theorem open_slice_fieldsW {t e : TypeId} {fs : Array Field} {fuel : Nat} {cs : List Value} {x : DataW H × List MemPlace} (ht : P.underlying t = some (.slice e)) (he : P.underlying e = some (.struct fs))
    (hone : oneCellFields P fs = true) (hC : P.cellsOf e = fs.size) (h : DataW.trod enc' P w base spare held fuel t cs = some x) :
    (cs = [.slice none 0 0]) ∨
    ∃ (a : Addr) (len cap : Nat), cs = [.slice (some a) len cap] ∧ len ≤ cap ∧ cap ≤ maxLen ∧
      ∀ i, i < len → ∀ (j : Nat) (f : Field), fs[j]? = some f → ∃ (v : Value) (y : DataW H × List MemPlace) (n : Nat), w.cell? (a.add (i * fs.size + j)) = some v ∧ DataW.trod enc' P w base spare held n f.type [v] = some y ∧ ∀ q ∈ y.1.weights P f.type, q ∈ x.1.weights P t := by
  rcases open_slice ht h with h0 | ⟨a, len, cap, m, n, D, Pl, hcs, hb, hl, hm, hmm, hx, hi⟩
  · exact .inl h0.1
  · refine .inr ⟨a, len, cap, hcs, hl, hm, fun i hil => ?_⟩
    obtain ⟨cs', hc, ht'⟩ := hi i (by rw [hmm]; split <;> omega)
    rw [hC] at hc
    obtain ⟨ys, n', hn', hy, hlen, hyl, hf⟩ := DataW.trod_struct he ht'
    obtain ⟨_, hcl, hat⟩ := World.cells?_some hc
    intro j f hj
    obtain ⟨ho, hk⟩ := hone_of hone j f hj
    have hjl : j < fs.size := (Array.getElem?_eq_some_iff.1 hj).1
    have hcell := hat j hjl
    have hv : cs'[j]? = some (cs'[j]'(by omega)) := List.getElem?_eq_getElem (by omega)
    have h1 := hf j f hj
    rw [ho, hk] at h1
    have hone' : (cs'.drop j).take 1 = [cs'[j]'(by omega)] := by
      rw [List.drop_eq_getElem_cons (by omega)]
      rfl
    rw [hone'] at h1
    have hys : ys[j]? = some (ys[j]'(by omega)) := List.getElem?_eq_getElem (by omega)
    refine ⟨_, _, _, ?_, h1.trans hys, fun q hq => ?_⟩
    · rw [← Go.Deep.add_add, hcell, hv]
    · have hD : D i = .agg (ys.map (·.1)) := congrArg Prod.fst hy
      rw [hx]
      simp only [DataW.weights, ht]
      refine List.mem_cons_of_mem _ (List.mem_append_left _ (weightsAll_in (d := D i) (List.mem_map.2 ⟨i, List.mem_range.2 hil, rfl⟩) ?_))
      rw [hD]
      simp only [DataW.weights, he]
      exact weights_in (j := j) (by simp [hj]) (by simp [hys]) hq
/-- Rows of structs of one-cell fields. -/
theorem open_rowsW {α : Type} {enc : α → List Value} {R : α → Prop} {t e : TypeId} {fs : Array Field} {fuel : Nat} {v : Value} {x : DataW H × List MemPlace} (ht : P.underlying t = some (.slice e)) (he : P.underlying e = some (.struct fs))
    (hone : oneCellFields P fs = true) (hC : P.cellsOf e = fs.size) (hne : 0 < fs.size) (hen : ∀ x, (enc x).length = fs.size)
    (hk : ∀ cell : Nat → Value, (∀ (j : Nat) (f : Field), fs[j]? = some f → ∃ (y : DataW H × List MemPlace) (n : Nat), DataW.trod enc' P w base spare held n f.type [cell j] = some y ∧ ∀ q ∈ y.1.weights P f.type, q ≤ reachBytes) → ∃ x, (∀ j, j < fs.size → (enc x)[j]? = some (cell j)) ∧ R x)
    (h : DataW.trod enc' P w base spare held fuel t [v] = some x) (hB : ∀ q ∈ x.1.weights P t, q ≤ reachBytes) : ∃ l : List α, RR w fs.size v l.length (l.flatMap enc) ∧ (∀ x ∈ l, R x) ∧ l.length ≤ maxLen := by
  rcases open_slice_fieldsW ht he hone hC h with h0 | ⟨a, len, cap, hcs, hl, hm, hi⟩
  · simp only [List.cons.injEq, and_true] at h0
    subst h0
    exact ⟨[], ⟨by simp, .inl ⟨none, 0, rfl, rfl⟩⟩, fun x h => by simp at h, Nat.zero_le _⟩
  · simp only [List.cons.injEq, and_true] at hcs
    subst hcs
    obtain ⟨l, hll, hq⟩ := list_of (Q := fun i x => (∀ j, j < fs.size → w.cell? (a.add (i * fs.size + j)) = (enc x)[j]?) ∧ R x) len fun i hil => by
      have h1 := hi i hil
      have h2 : ∀ j : Nat, ∃ v : Value, ∀ f, fs[j]? = some f → w.cell? (a.add (i * fs.size + j)) = some v ∧ ∃ (y : DataW H × List MemPlace) (n : Nat), DataW.trod enc' P w base spare held n f.type [v] = some y ∧ ∀ q ∈ y.1.weights P f.type, q ≤ reachBytes := fun j => by
        cases hf : fs[j]? with
        | none => exact ⟨undef, fun f h => by cases h⟩
        | some f =>
          obtain ⟨v, y, n, h3, h4, h5⟩ := h1 j f hf
          exact ⟨v, fun f' h => by cases h; exact ⟨h3, y, n, h4, fun q hq => hB q (h5 q hq)⟩⟩
      obtain ⟨x, hx, hR⟩ := hk (fun j => (h2 j).choose) fun j f hf => ((h2 j).choose_spec f hf).2
      refine ⟨x, fun j hj => ?_, hR⟩
      rw [hx j hj]
      exact ((h2 j).choose_spec fs[j] (Array.getElem?_eq_getElem hj)).1
    subst hll
    have hlen := flat_length hen l
    refine ⟨l, ⟨hlen, ?_⟩, fun x hx => ?_, by omega⟩
    · by_cases h0 : l.length = 0
      · exact .inl ⟨some a, cap, by rw [h0], h0⟩
      · obtain ⟨b, off, spot⟩ := a
        have hx0 : l[0]? = some l[0] := List.getElem?_eq_getElem (by omega)
        have hc0 := (hq 0 _ hx0).1 0 hne
        rw [List.getElem?_eq_getElem (by rw [hen]; exact hne)] at hc0
        have hs : spot = none := by simpa [Addr.add] using World.cell?_spot hc0
        subst hs
        rw [Addr.add_lit] at hc0
        have hlt : b < w.heap.size := by
          unfold World.cell? at hc0
          cases hb : w.heap[b]? with
          | none => simp [hb] at hc0
          | some o => exact (Array.getElem?_eq_some_iff.1 hb).1
        refine .inr ⟨b, off, cap, rfl, hlt, hl, fun j hj => ?_⟩
        have hjd := Nat.div_add_mod j fs.size
        have hml := Nat.mod_lt j hne
        have hdl : j / fs.size < l.length := by
          rw [hlen] at hj
          exact Nat.div_lt_of_lt_mul (by rw [Nat.mul_comm]; exact hj)
        have hxk : l[j / fs.size]? = some l[j / fs.size] := List.getElem?_eq_getElem hdl
        have h1 := (hq _ _ hxk).1 (j % fs.size) hml
        rw [Addr.add_lit, Nat.mul_comm, hjd] at h1
        rw [h1]
        have h2 := flat_at hen l (j / fs.size) (j % fs.size) _ hxk hml
        rw [Nat.mul_comm, hjd, List.getElem?_eq_getElem hj] at h2
        exact h2.symm
    · obtain ⟨i, hil, rfl⟩ := List.getElem_of_mem hx
      exact (hq i _ (List.getElem?_eq_getElem hil)).2
end
theorem open_boolsF {H : Type} {enc : TypeId × Value → H} {P : Program} {W : World} {base n : Nat} {held : Bool} {t e : TypeId} {v : Value} {y : DataW H × List MemPlace} (ht : P.underlying t = some (.slice e)) (he : P.underlying e = some .bool) (hc : P.cellsOf e = 1)
    (hb1 : P.bytesOf e = 1) (h : DataW.trod enc P W base (fun _ => true) held n t [v] = some y) (hB : ∀ q ∈ y.1.weights P t, q ≤ reachBytes) : ∃ l : List Bool, RBo W v l ∧ (∀ b off n c, v = .slice (some ⟨b, off, none⟩) n c → l ≠ [] → b < W.heap.size) ∧ l.length ≤ reachBytes := by
  have hW := open_slice ht h
  rcases open_bools ht he hc h with ⟨h0, _⟩ | ⟨a, len, cap, B, h0, hb, hl, hcap, _, hcell⟩
  · obtain rfl : v = .slice none 0 0 := by simpa using h0
    exact ⟨[], .inl ⟨none, 0, rfl, rfl⟩, by simp, Nat.zero_le _⟩
  · obtain rfl : v = .slice (some a) len cap := by simpa using h0
    by_cases h1 : len = 0
    · subst h1
      exact ⟨[], .inl ⟨some a, cap, rfl, rfl⟩, by simp, Nat.zero_le _⟩
    · obtain ⟨b, off, spot⟩ := a
      have hc0 := hcell 0 (by omega)
      have hs : spot = none := by simpa [Addr.add] using World.cell?_spot hc0
      subst hs
      rw [Addr.add_lit] at hc0
      have hlt : b < W.heap.size := by
        unfold World.cell? at hc0
        cases hb : W.heap[b]? with
        | none => simp [hb] at hc0
        | some o => exact (Array.getElem?_eq_some_iff.1 hb).1
      have hlen : ((List.range len).map B).length = len := by simp
      have hlr : len ≤ reachBytes := by
        rcases hW with ⟨hW, _⟩ | ⟨a', len', cap', m, n', D, Pl, hcs, -, -, -, -, hx, -⟩
        · simp at hW
        · simp only [List.cons.injEq, Value.slice.injEq, and_true] at hcs
          obtain ⟨-, rfl, -⟩ := hcs
          have := hB ((len + (m - len)) * 1) (by
            rw [hx]
            simp only [DataW.weights, ht]
            exact List.mem_cons.2 (.inl (by simp [hb1])))
          omega
      refine ⟨(List.range len).map B, .inr ⟨b, off, cap, by rw [hlen], hlt, by omega, fun j hj => ?_⟩, (by rintro b' off' n' c e -; cases e; exact hlt), by omega⟩
      rw [hlen] at hj
      have hc' := hcell j (by omega)
      rw [Addr.add_lit] at hc'
      rw [hc']
      simp
end
end Go.Proofs.Ytobcfocbglkicaa
