/- Generic: rows of one's own, of elements of any number of cells; append over them. No statement of its own. -/
import Derived.Test.YteahlnoonmfjhaaBytes
set_option linter.unusedVariables false
namespace Go.Proofs.Yteahlnoonmfjhaa
open Go.RowKit

/-- v is nil, or a row of its own in a block not below B: n elements of sz cells each, these cells; each cell of the block is a C. -/
def OwnR (w : World) (B : Nat) (T : TypeId) (sz : Nat) (C : Value → Prop) (v : Value) (n : Nat) (cs : List Value) : Prop :=
  cs.length = n * sz ∧ ((v = .slice none 0 0 ∧ n = 0) ∨ ∃ g c junk, v = .slice (some ⟨g, 0, none⟩) n c ∧ B ≤ g ∧ w.heap[g]? = some (.cells (cs ++ junk).toArray T (0, 0)) ∧ cs.length + junk.length = c * sz ∧ ∀ u ∈ cs ++ junk, C u)
theorem OwnR.form {w : World} {B : Nat} {T : TypeId} {sz : Nat} {C : Value → Prop} {v : Value} {n : Nat} {cs : List Value} (h : OwnR w B T sz C v n cs) : ∃ A c, v = .slice A n c := by
  rcases h with ⟨_, ⟨rfl, rfl⟩ | ⟨g, c, junk, rfl, _⟩⟩
  · exact ⟨none, 0, rfl⟩
  · exact ⟨_, c, rfl⟩
theorem OwnR.nil {w : World} {B : Nat} {T : TypeId} {sz : Nat} {C : Value → Prop} : OwnR w B T sz C (.slice none 0 0) 0 [] := ⟨by simp, .inl ⟨rfl, rfl⟩⟩
theorem OwnR.ext {w w' : World} {B : Nat} {T : TypeId} {sz : Nat} {C : Value → Prop} {v : Value} {n : Nat} {cs : List Value} (h : OwnR w B T sz C v n cs) (k : Ext w w') : OwnR w' B T sz C v n cs := by
  obtain ⟨h0, h⟩ := h
  refine ⟨h0, h.imp id ?_⟩
  rintro ⟨g, c, junk, rfl, hB, hg, hc⟩
  exact ⟨g, c, junk, rfl, hB, (k.block g (Array.getElem?_eq_some_iff.1 hg).1).trans hg, hc⟩
theorem OwnR.mono {w : World} {B B' : Nat} {T : TypeId} {sz : Nat} {C : Value → Prop} {v : Value} {n : Nat} {cs : List Value} (h : OwnR w B T sz C v n cs) (k : B' ≤ B) : OwnR w B' T sz C v n cs := by
  obtain ⟨h0, h⟩ := h
  refine ⟨h0, h.imp id ?_⟩
  rintro ⟨g, c, junk, rfl, hB, hg, hc⟩
  exact ⟨g, c, junk, rfl, by omega, hg, hc⟩
/-- What may change at an append: the row's own block. -/
theorem OwnR.grown {w w' : World} {B g : Nat} {T : TypeId} {sz : Nat} {C : Value → Prop} {v : Value} {n : Nat} {cs : List Value} (h : OwnR w B T sz C v n cs) (k : w.grownBy w' (some g)) (hg : g < B) : OwnR w' B T sz C v n cs := by
  obtain ⟨h0, h⟩ := h
  refine ⟨h0, h.imp id ?_⟩
  rintro ⟨g', c, junk, rfl, hB, hg', hc⟩
  exact ⟨g', c, junk, rfl, hB, (k.block g' (Array.getElem?_eq_some_iff.1 hg').1 (by simp; omega)).trans hg', hc⟩
/-- The cells of such a row. -/
theorem OwnR.cells {w : World} {B : Nat} {T : TypeId} {sz : Nat} {C : Value → Prop} {A : Option Addr} {n c : Nat} {cs : List Value} (h : OwnR w B T sz C (.slice A n c) n cs) (hn : 0 < n) :
    ∃ g, A = some ⟨g, 0, none⟩ ∧ B ≤ g ∧ g < w.heap.size ∧ (0 < sz → n ≤ c) ∧ ∀ j (hj : j < cs.length), w.cell? ⟨g, j, none⟩ = some cs[j] := by
  obtain ⟨h0, ⟨_, rfl⟩ | ⟨g, c', junk, hv, hB, hg, hc, hC⟩⟩ := h
  · omega
  · simp only [Value.slice.injEq] at hv
    obtain ⟨rfl, -, rfl⟩ := hv
    refine ⟨g, rfl, hB, (Array.getElem?_eq_some_iff.1 hg).1, fun hs => ?_, fun j hj => ?_⟩
    · have : n * sz ≤ c * sz := by omega
      exact Nat.le_of_mul_le_mul_right this hs
    · rw [cell_of_row _ _ _ _ _ _ hg]
      simp [List.getElem?_append_left hj, hj]

/-- Not a byte. -/
def NoB (v : Value) : Prop := ∀ x, v ≠ bv x
/-- What is read of bytes stays when a row changes that holds no bytes. -/
theorem RS.grown {w w' : World} {g : Option Nat} {v : Value} {l : List UInt8} (h : RS w v l) (k : w.grownBy w' g) (hn : ∀ b o u, g = some b → w.cell? ⟨b, o, none⟩ = some u → NoB u) : RS w' v l := by
  rcases h with h | ⟨b', off, c', rfl, hb, hc, hj⟩
  · exact .inl h
  · refine .inr ⟨b', off, c', rfl, Nat.lt_of_lt_of_le hb k.size, hc, fun j hjl => ?_⟩
    have hne : some b' ≠ g := by
      rintro rfl
      have h1 := hj j hjl
      rw [bvs_get hjl] at h1
      exact hn b' _ _ rfl h1 _ rfl
    rw [← hj j hjl]
    exact World.cell?_of_block (k.block b' hb hne)
theorem OwnR.nob {w : World} {B : Nat} {T : TypeId} {sz : Nat} {C : Value → Prop} {v : Value} {n : Nat} {cs : List Value} (h : OwnR w B T sz C v n cs) : ∀ b o u, v.ownBlock = some b → w.cell? ⟨b, o, none⟩ = some u → C u := by
  intro b o u hv hu
  obtain ⟨_, ⟨rfl, rfl⟩ | ⟨g, c, junk, rfl, hB, hg, hc, hC⟩⟩ := h
  · simp [Value.ownBlock] at hv
  · obtain rfl : g = b := by simpa [Value.ownBlock] using hv
    rw [cell_of_row _ _ _ _ _ _ hg] at hu
    simp only [List.getElem?_toArray] at hu
    exact hC u (List.mem_of_getElem? hu)

section
variable {P : Program}
theorem appG2 {w : World} {B sz : Nat} {C : Value → Prop} {v x : Value} {n m : Nat} {cs new : List Value} {t tx ty e : TypeId} {i : TypeInfo} {z : Value} (ht : P.underlying t = some (.slice e)) (hi : P.info? e = some i) (h1 : i.size = sz) (hz : i.zero = some z) (hzz : z.cells.size = sz)
    (ho : OwnR w B e sz C v n cs) (hs : Src P sz tx x m new w) (hB : B ≤ w.heap.size) (hsz : 0 < sz) (hCn : ∀ u ∈ new, C u) (hCz : ∀ u ∈ z.cells, C u) (hc : (n + m) * i.bytes ≤ 140737488355328) (hm : n + m ≤ 140737488355328) :
    ∃ v' w', (Builtin.append_ #[t, tx] ty #[v, x]).run P w = .ok v' w' ∧ OwnR w' B e sz C v' (n + m) (cs ++ new) ∧ Below B w w' ∧ w.grownBy w' v.ownBlock ∧ (∀ b, v'.ownBlock = some b → v.ownBlock = some b ∨ w.heap.size ≤ b) := by
  obtain ⟨h0, ho⟩ := ho
  have hnl := hs.newsLen
  have hlen : (cs ++ new).length = (n + m) * sz := by rw [List.length_append, h0, hnl, Nat.add_mul]
  have grow : ∀ (base : Option Addr) (c : Nat), (∀ u ∈ cs, C u) → v = .slice base n c → (Builtin.firstCells i.size n (.slice base n c)).run P w.drew = .ok cs.toArray w.drew → c < n + m →
      ∃ v' w', (Builtin.append_ #[t, tx] ty #[v, x]).run P w = .ok v' w' ∧ OwnR w' B e sz C v' (n + m) (cs ++ new) ∧ Below B w w' ∧ w.grownBy w' v.ownBlock ∧ (∀ b, v'.ownBlock = some b → v.ownBlock = some b ∨ w.heap.size ≤ b) := by
    rintro base c hCo rfl hold hlt
    have hs' := hs
    rw [← h1] at hs'
    have hr := run_append_grow_src (P := P) w t tx ty e i z ht hi hz base n c cs hold x m new hs' hlt (by omega) (growslice_fits hlt hc)
    have hge := grownCap_ge w (n + m) c e
    have hzl : (Builtin.zeroCells z.cells (grownCap w (n + m) c e - (n + m))).toList.length = (grownCap w (n + m) c e - (n + m)) * sz := by simp [Builtin.zeroCells, hzz]
    have hE : Ext w (w.drew.alloc (.cells ((cs ++ new).toArray ++ Builtin.zeroCells z.cells (grownCap w (n + m) c e - (n + m))) e)) := (Below.refl _ w).drew.alloc (Nat.le_refl _) _
    refine ⟨_, _, hr, ⟨hlen, .inr ⟨w.heap.size, grownCap w (n + m) c e, (Builtin.zeroCells z.cells (grownCap w (n + m) c e - (n + m))).toList, rfl, hB, ?_, ?_⟩⟩, hE.mono hB, ⟨hE.os, hE.tape, hE.output, hE.size, fun k hk _ => hE.block k hk⟩, fun b hb => .inr (by simp [Value.ownBlock] at hb; omega)⟩
    · have hrow : (cs ++ new).toArray ++ Builtin.zeroCells z.cells (grownCap w (n + m) c e - (n + m)) = ((cs ++ new) ++ (Builtin.zeroCells z.cells (grownCap w (n + m) c e - (n + m))).toList).toArray := by
        apply Array.ext'; simp
      rw [hrow]
      exact heap_alloc_new w.drew _
    · refine ⟨by rw [hlen, hzl, ← Nat.add_mul]; congr 1; omega, fun u hu => ?_⟩
      rcases List.mem_append.1 hu with hu | hu
      · rcases List.mem_append.1 hu with hu | hu
        · exact hCo u hu
        · exact hCn u hu
      · simp only [Builtin.zeroCells, Array.mem_toList_iff, Array.mem_map, Array.mem_range] at hu
        obtain ⟨j, _, rfl⟩ := hu
        have hj : j % z.cells.size < z.cells.size := Nat.mod_lt _ (by omega)
        rw [getElem!_pos z.cells _ hj]
        exact hCz _ (Array.getElem_mem hj)
  rcases ho with ⟨rfl, rfl⟩ | ⟨g, c, junk, rfl, hBg, hg, hcc, hC⟩
  · have hcs : cs = [] := List.length_eq_zero_iff.1 (by simpa using h0)
    subst hcs
    by_cases h00 : m = 0
    · subst h00
      have hnew : new = [] := List.length_eq_zero_iff.1 (by simpa using hnl)
      subst hnew
      refine ⟨.slice none 0 0, w, ?_, ⟨by simp, .inl ⟨rfl, rfl⟩⟩, Below.refl _ _, ⟨rfl, rfl, rfl, Nat.le_refl _, fun _ _ _ => rfl⟩, fun b hb => .inl hb⟩
      have hcells : (Builtin.firstCells sz 0 x).run P w = .ok #[] w := hs.cells
      rcases hs.kind with ⟨e', hk⟩ | hk <;> simp [Builtin.append_, run_underlying ht, run_underlying hk, sizeOf, typeInfo, hi, h1, hs.len, hcells]
    · exact grow none 0 (fun _ h => by cases h) rfl (by rw [h1]; exact run_firstCells_none w.drew sz 0 0 0) (by omega)
  · by_cases hr : n + m ≤ c
    · have hmul : (n + m) * sz ≤ c * sz := Nat.mul_le_mul_right _ hr
      have hst := run_storeCells_at P g (n * sz) e new 0 _ w hg (by simp; rw [Nat.add_mul] at hmul; omega) hs.one
      simp only [Nat.add_zero] at hst
      have hrow : (cs ++ junk).toArray.toList.take (n * sz) ++ new ++ (cs ++ junk).toArray.toList.drop (n * sz + new.length) = (cs ++ new) ++ junk.drop new.length := by
        rw [← h0]
        simp only [List.append_assoc]
        rw [List.take_left' rfl, List.drop_append, List.drop_eq_nil_of_le (by omega)]
        simp
      rw [hrow] at hst
      have hb : Below B w (w.setRow g ((cs ++ new) ++ junk.drop new.length).toArray) := below_setRow (Below.refl B w) hBg _
      refine ⟨.slice (some ⟨g, 0, none⟩) (n + m) c, w.setRow g ((cs ++ new) ++ junk.drop new.length).toArray, ?_, ⟨hlen, .inr ⟨g, c, junk.drop new.length, rfl, hBg, setRow_heap w g _ _ _ _ hg, ?_⟩⟩, hb, ⟨rfl, rfl, rfl, by simp [World.setRow], fun i hi hne => setRow_other w g i _ (by simpa [Value.ownBlock] using hne)⟩, fun b hb => .inl hb⟩
      · have hcells := hs.cells
        rcases hs.kind with ⟨e', hk⟩ | hk <;> simp [Builtin.append_, run_underlying ht, run_underlying hk, sizeOf, typeInfo, hi, h1, hs.len, hr, hcells, Addr.add_lit, hst]
      · refine ⟨by simp only [List.length_append, List.length_drop]; rw [Nat.add_mul] at hmul; omega, fun u hu => ?_⟩
        rcases List.mem_append.1 hu with hu | hu
        · rcases List.mem_append.1 hu with hu | hu
          · exact hC u (List.mem_append_left _ hu)
          · exact hCn u hu
        · exact hC u (List.mem_append_right _ (List.mem_of_mem_drop hu))
    · refine grow (some ⟨g, 0, none⟩) c (fun u hu => hC u (List.mem_append_left _ hu)) rfl ?_ (by omega)
      rw [h1]
      refine run_firstCells_some (P := P) w.drew sz n ⟨g, 0, none⟩ n c cs h0 fun j u hu => ?_
      rw [Addr.add_lit, Nat.zero_add]
      have hjl := (List.getElem?_eq_some_iff.1 hu).1
      have : w.drew.cell? ⟨g, j, none⟩ = w.cell? ⟨g, j, none⟩ := rfl
      rw [this, cell_of_row _ _ _ _ _ _ hg, ← hu]
      simp only [List.getElem?_toArray]
      exact List.getElem?_append_left hjl
theorem appG {w : World} {B sz : Nat} {C : Value → Prop} {v x : Value} {n m : Nat} {cs new : List Value} {t tx ty e : TypeId} {i : TypeInfo} {z : Value} (ht : P.underlying t = some (.slice e)) (hi : P.info? e = some i) (h1 : i.size = sz) (hz : i.zero = some z) (hzz : z.cells.size = sz)
    (ho : OwnR w B e sz C v n cs) (hs : Src P sz tx x m new w) (hB : B ≤ w.heap.size) (hsz : 0 < sz) (hCn : ∀ u ∈ new, C u) (hCz : ∀ u ∈ z.cells, C u) (hc : (n + m) * i.bytes ≤ 140737488355328) (hm : n + m ≤ 140737488355328) :
    ∃ v' w', (Builtin.append_ #[t, tx] ty #[v, x]).run P w = .ok v' w' ∧ OwnR w' B e sz C v' (n + m) (cs ++ new) ∧ Below B w w' ∧ w.grownBy w' v.ownBlock := by
  obtain ⟨v', w', h1, h2, h3, h4, _⟩ := appG2 (ty := ty) ht hi h1 hz hzz ho hs hB hsz hCn hCz hc hm
  exact ⟨v', w', h1, h2, h3, h4⟩
/-- A row of literal cells just made, as append's source. -/
theorem src_row {w : World} {sz : Nat} {tx e' : TypeId} {T : TypeId} {fr : Nat × Nat} {g n c : Nat} {cs : List Value} (hk : P.underlying tx = some (.slice e')) (hg : w.heap[g]? = some (.cells cs.toArray T fr)) (hl : cs.length = n * sz) (h1 : ∀ u ∈ cs, u.oneCell' = true) :
    Src P sz tx (.slice (some ⟨g, 0, none⟩) n c) n cs w :=
  Src.ofSlice w hk _ _ _ _ hl (fun j u hu => by
    rw [Addr.add_lit, Nat.zero_add, cell_of_row _ _ _ _ _ _ hg, ← hu]; simp) h1
theorem OwnR.src {w : World} {B : Nat} {T tx e' : TypeId} {sz : Nat} {C : Value → Prop} {v : Value} {n : Nat} {cs : List Value} (h : OwnR w B T sz C v n cs) (hk : P.underlying tx = some (.slice e')) (h1 : ∀ u ∈ cs, u.oneCell' = true) : Src P sz tx v n cs w := by
  obtain ⟨h0, ⟨rfl, rfl⟩ | ⟨g, c, junk, rfl, hB, hg, hc⟩⟩ := h
  · have hcs : cs = [] := List.length_eq_zero_iff.1 (by simpa using h0)
    subst hcs
    exact Src.ofNil w hk 0
  · refine Src.ofSlice w hk _ _ _ _ h0 (fun j u hu => ?_) h1
    rw [Addr.add_lit, Nat.zero_add, cell_of_row _ _ _ _ _ _ hg, ← hu]
    simp only [List.getElem?_toArray]
    exact List.getElem?_append_left (List.getElem?_eq_some_iff.1 hu).1
end
end Go.Proofs.Yteahlnoonmfjhaa
