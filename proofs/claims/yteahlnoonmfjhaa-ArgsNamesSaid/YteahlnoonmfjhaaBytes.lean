/- Generic: slices of bytes: what can be read, rows of one's own; append, make, string of bytes over them. No statement of its own. -/
import Derived.Test.YteahlnoonmfjhaaCalm
import Derived.Deep.AppendSrc
import Derived.Laws.MakeOwn
import Derived.Laws.OwnMore
set_option linter.unusedVariables false
namespace Go.Proofs.Yteahlnoonmfjhaa
open Go.RowKit

theorem Ext.of {w w' : World} (h : Below w.heap.size w w') : Ext w w' := h
theorem below_setRow' {B g : Nat} {w0 w : World} (hb : Below B w0 w) (hBg : B ≤ g) (cs : Array Value) : Below B w0 (w.setRow g cs) := below_setRow hb hBg cs

/-- v is a slice of the bytes l, which can be read in w. -/
def RS (w : World) (v : Value) (l : List UInt8) : Prop :=
  (v = .slice none 0 0 ∧ l = []) ∨ ∃ b off c, v = .slice (some ⟨b, off, none⟩) l.length c ∧ b < w.heap.size ∧ l.length ≤ c ∧ ∀ j, j < l.length → w.cell? ⟨b, off + j, none⟩ = (bvs l)[j]?
/-- v is a row of its own, of capacity c, in a block not below B, with the bytes l. -/
def Own (w : World) (B : Nat) (T : TypeId) (v : Value) (l : List UInt8) (c : Nat) : Prop :=
  ∃ g junk, v = .slice (some ⟨g, 0, none⟩) l.length c ∧ B ≤ g ∧ w.heap[g]? = some (.cells (bvs (l ++ junk)).toArray T (0, 0)) ∧ l.length + junk.length = c
/-- Nil, or such a row. -/
def OwnZ (w : World) (B : Nat) (T : TypeId) (v : Value) (l : List UInt8) : Prop := (v = .slice none 0 0 ∧ l = []) ∨ ∃ c, Own w B T v l c

theorem RS.form {w : World} {v : Value} {l : List UInt8} (h : RS w v l) : ∃ A c, v = .slice A l.length c := by
  rcases h with ⟨rfl, rfl⟩ | ⟨b, off, c, rfl, _⟩
  · exact ⟨none, 0, rfl⟩
  · exact ⟨_, c, rfl⟩
theorem RS.ext {w w' : World} {v : Value} {l : List UInt8} (h : RS w v l) (k : Ext w w') : RS w' v l := by
  rcases h with h | ⟨b, off, c, rfl, hb, hc, hj⟩
  · exact .inl h
  · exact .inr ⟨b, off, c, rfl, Nat.lt_of_lt_of_le hb k.size, hc, fun j h => (k.cell (p := ⟨b, off + j, none⟩) hb).trans (hj j h)⟩
theorem RS.nil {w : World} : RS w (.slice none 0 0) [] := .inl ⟨rfl, rfl⟩
theorem Own.rs {w : World} {B : Nat} {T : TypeId} {v : Value} {l : List UInt8} {c : Nat} (h : Own w B T v l c) : RS w v l := by
  obtain ⟨g, junk, rfl, hB, hg, hc⟩ := h
  refine .inr ⟨g, 0, c, rfl, (Array.getElem?_eq_some_iff.1 hg).1, by omega, fun j hj => ?_⟩
  rw [cell_of_row _ _ _ _ _ _ hg, Nat.zero_add]
  simp only [bvs, List.map_append, List.getElem?_toArray]
  exact List.getElem?_append_left (by simpa using hj)
theorem OwnZ.rs {w : World} {B : Nat} {T : TypeId} {v : Value} {l : List UInt8} (h : OwnZ w B T v l) : RS w v l := by
  rcases h with h | ⟨c, h⟩
  · exact .inl h
  · exact h.rs
theorem Own.z {w : World} {B : Nat} {T : TypeId} {v : Value} {l : List UInt8} {c : Nat} (h : Own w B T v l c) : OwnZ w B T v l := .inr ⟨c, h⟩
theorem Own.ext {w w' : World} {B : Nat} {T : TypeId} {v : Value} {l : List UInt8} {c : Nat} (h : Own w B T v l c) (k : Ext w w') : Own w' B T v l c := by
  obtain ⟨g, junk, rfl, hB, hg, hc⟩ := h
  exact ⟨g, junk, rfl, hB, (k.block g (Array.getElem?_eq_some_iff.1 hg).1).trans hg, hc⟩
theorem OwnZ.ext {w w' : World} {B : Nat} {T : TypeId} {v : Value} {l : List UInt8} (h : OwnZ w B T v l) (k : Ext w w') : OwnZ w' B T v l := h.imp id fun ⟨c, h⟩ => ⟨c, h.ext k⟩
theorem Own.mono {w : World} {B B' : Nat} {T : TypeId} {v : Value} {l : List UInt8} {c : Nat} (h : Own w B T v l c) (k : B' ≤ B) : Own w B' T v l c := by
  obtain ⟨g, junk, rfl, hB, hg, hc⟩ := h
  exact ⟨g, junk, rfl, by omega, hg, hc⟩
theorem OwnZ.mono {w : World} {B B' : Nat} {T : TypeId} {v : Value} {l : List UInt8} (h : OwnZ w B T v l) (k : B' ≤ B) : OwnZ w B' T v l := h.imp id fun ⟨c, h⟩ => ⟨c, h.mono k⟩
theorem OwnZ.nil {w : World} {B : Nat} {T : TypeId} : OwnZ w B T (.slice none 0 0) [] := .inl ⟨rfl, rfl⟩

/-- A block of bytes, or a part of it. -/
theorem rs_block {w : World} {g off c : Nat} {T : TypeId} {fr : Nat × Nat} {l m : List UInt8} (hg : w.heap[g]? = some (.cells (bvs m).toArray T fr)) (hl : (m.drop off).take l.length = l) (hc : l.length ≤ c) : RS w (.slice (some ⟨g, off, none⟩) l.length c) l := by
  refine .inr ⟨g, off, c, rfl, (Array.getElem?_eq_some_iff.1 hg).1, hc, fun j hj => ?_⟩
  rw [cell_of_row _ _ _ _ _ _ hg]
  conv => rhs; rw [← hl]
  simp [bvs, hj]

theorem byteCells_str (l : List UInt8) : byteCells (str l) = bvs l := rfl
theorem one_bvs (l : List UInt8) : ∀ u ∈ bvs l, u.oneCell' = true := by
  intro u hu
  obtain ⟨b, _, rfl⟩ := List.mem_map.1 hu
  rfl

section
variable {P : Program}
theorem RS.src {w : World} {v : Value} {l : List UInt8} {tx e' : TypeId} (h : RS w v l) (hk : P.underlying tx = some (.slice e')) : Src P 1 tx v l.length (bvs l) w := by
  rcases h with ⟨rfl, rfl⟩ | ⟨b, off, c, rfl, hb, hc, hj⟩
  · exact Src.ofNil w hk 0
  · refine Src.ofSlice w hk ⟨b, off, none⟩ l.length c (bvs l) (by simp [bvs]) (fun j u hu => ?_) (one_bvs l)
    have hjl : j < l.length := by have := (List.getElem?_eq_some_iff.1 hu).1; simpa [bvs] using this
    rw [Addr.add_lit]
    exact (hj j hjl).trans hu
theorem str_src {w : World} {l : List UInt8} {tx : TypeId} (hk : P.underlying tx = some .string) : Src P 1 tx (.string (str l)) l.length (bvs l) w := by
  have := Src.ofString w hk (str l)
  rw [str_size, byteCells_str] at this
  exact this

theorem app_room {w : World} {B : Nat} {v x : Value} {l l2 : List UInt8} {c : Nat} {t tx ty e : TypeId} {i : TypeInfo} (ht : P.underlying t = some (.slice e)) (hi : P.info? e = some i) (h1 : i.size = 1)
    (ho : Own w B e v l c) (hs : Src P 1 tx x l2.length (bvs l2) w) (hc : l.length + l2.length ≤ c) :
    ∃ v' w', (Builtin.append_ #[t, tx] ty #[v, x]).run P w = .ok v' w' ∧ Own w' B e v' (l ++ l2) c ∧ Below B w w' ∧ w'.heap.size = w.heap.size := by
  obtain ⟨g, junk, rfl, hB, hg, hcc⟩ := ho
  have hst := run_storeCells_at P g l.length e (bvs l2) 0 _ w hg (by simp [bvs]; omega) (one_bvs l2)
  simp only [Nat.add_zero] at hst
  have hrow : (bvs (l ++ junk)).toArray.toList.take l.length ++ bvs l2 ++ (bvs (l ++ junk)).toArray.toList.drop (l.length + (bvs l2).length) = bvs ((l ++ l2) ++ junk.drop l2.length) := by
    simp only [bvs, List.map_append, List.length_map, List.append_assoc]
    rw [List.take_left' (by simp), List.drop_append, List.drop_eq_nil_of_le (by simp)]
    simp [← List.map_drop]
  rw [hrow] at hst
  refine ⟨.slice (some ⟨g, 0, none⟩) (l.length + l2.length) c, w.setRow g (bvs ((l ++ l2) ++ junk.drop l2.length)).toArray, ?_, ⟨g, junk.drop l2.length, by simp, hB, setRow_heap w g _ _ _ _ hg, by simp; omega⟩, below_setRow (Below.refl B w) hB _, by simp [World.setRow]⟩
  have hcells := hs.cells
  rcases hs.kind with ⟨e', hk⟩ | hk <;> simp [Builtin.append_, run_underlying ht, run_underlying hk, sizeOf, typeInfo, hi, h1, hs.len, hc, hcells, Addr.add_lit, hst]

theorem app_any {w : World} {B : Nat} {v x : Value} {l l2 : List UInt8} {t tx ty e : TypeId} {i : TypeInfo} {z : Value} (ht : P.underlying t = some (.slice e)) (hi : P.info? e = some i) (h1 : i.size = 1) (h2 : i.bytes = 1) (hz : i.zero = some z) (hzz : z.cells = #[bv 0])
    (ho : OwnZ w B e v l) (hs : Src P 1 tx x l2.length (bvs l2) w) (hB : B ≤ w.heap.size) (hc : l.length + l2.length ≤ 140737488355328) :
    ∃ v' w', (Builtin.append_ #[t, tx] ty #[v, x]).run P w = .ok v' w' ∧ OwnZ w' B e v' (l ++ l2) ∧ Below B w w' := by
  have grow : ∀ (base : Option Addr) (c : Nat), v = .slice base l.length c → (Builtin.firstCells i.size l.length (.slice base l.length c)).run P w.drew = .ok (bvs l).toArray w.drew → c < l.length + l2.length →
      ∃ v' w', (Builtin.append_ #[t, tx] ty #[v, x]).run P w = .ok v' w' ∧ OwnZ w' B e v' (l ++ l2) ∧ Below B w w' := by
    rintro base c rfl hold hlt
    have hs' := hs
    rw [← h1] at hs'
    have hr := run_append_grow_src (P := P) w t tx ty e i z ht hi hz base l.length c (bvs l) hold x l2.length (bvs l2) hs' hlt (by omega) (growslice_fits hlt (by rw [h2]; omega))
    refine ⟨_, _, hr, .inr ⟨grownCap w (l.length + l2.length) c e, w.heap.size, List.replicate (grownCap w (l.length + l2.length) c e - (l.length + l2.length)) 0, by simp, hB, ?_, ?_⟩, (Below.refl B w).drew.alloc (by simpa using hB) _⟩
    · have hrow : (bvs l ++ bvs l2).toArray ++ Builtin.zeroCells z.cells (grownCap w (l.length + l2.length) c e - (l.length + l2.length)) = (bvs ((l ++ l2) ++ List.replicate (grownCap w (l.length + l2.length) c e - (l.length + l2.length)) 0)).toArray := by
        apply Array.ext'
        rw [hzz]
        simp only [Array.toList_append, bvs, List.map_append, List.map_replicate, List.append_assoc]
        have : (Builtin.zeroCells #[bv 0] (grownCap w (l.length + l2.length) c e - (l.length + l2.length))).toList = List.replicate (grownCap w (l.length + l2.length) c e - (l.length + l2.length)) (bv 0) := by
          apply List.ext_getElem?
          intro j
          by_cases hj : j < grownCap w (l.length + l2.length) c e - (l.length + l2.length)
          · simp [Builtin.zeroCells, hj, Nat.mod_one]
          · simp [Builtin.zeroCells, hj]
        rw [this]
      rw [hrow]
      exact heap_alloc_new w.drew _
    · have := grownCap_ge w (l.length + l2.length) c e
      simp
      omega
  rcases ho with ⟨rfl, rfl⟩ | ⟨c, ho⟩
  · by_cases h0 : l2 = []
    · subst h0
      refine ⟨.slice none 0 0, w, ?_, .inl ⟨rfl, rfl⟩, Below.refl _ _⟩
      have hcells : (Builtin.firstCells 1 0 x).run P w = .ok (bvs []).toArray w := hs.cells
      rcases hs.kind with ⟨e', hk⟩ | hk <;> simp [Builtin.append_, run_underlying ht, run_underlying hk, sizeOf, typeInfo, hi, h1, hs.len, hcells]
    · have := List.length_pos_iff.2 h0
      exact grow none 0 rfl (by rw [h1]; exact run_firstCells_none w.drew 1 0 0 0) (by simpa using this)
  · by_cases hr : l.length + l2.length ≤ c
    · obtain ⟨v', w', h3, h4, h5, _⟩ := app_room (P := P) (ty := ty) ht hi h1 ho hs hr
      exact ⟨v', w', h3, .inr ⟨c, h4⟩, h5⟩
    · obtain ⟨g, junk, rfl, hB', hg, hcc⟩ := ho
      refine grow (some ⟨g, 0, none⟩) c rfl ?_ (by omega)
      rw [h1]
      refine run_firstCells_some (P := P) w.drew 1 l.length ⟨g, 0, none⟩ l.length c (bvs l) (by simp [bvs]) fun j u hu => ?_
      have hjl : j < l.length := by have := (List.getElem?_eq_some_iff.1 hu).1; simpa [bvs] using this
      rw [Addr.add_lit, Nat.zero_add]
      have : w.drew.cell? ⟨g, j, none⟩ = w.cell? ⟨g, j, none⟩ := rfl
      rw [this, cell_of_row _ _ _ _ _ _ hg, ← hu]
      simp only [bvs, List.map_append, List.getElem?_toArray]
      exact List.getElem?_append_left (by simpa using hjl)

section
variable {ops : Array Oper} {rest : List Oper} {o : Oper} {a : Act} {w : World} {Q : Exit → Act → World → Prop}
theorem wpList_app (hgd : o.guard = none) (s x : Operand) (t tx : TypeId) (ho : o.op = .call { callee := .builtin .append, args := #[s, x], argTypes := #[t, tx] }) {v' : Value} {w' : World}
    (hr : (Builtin.append_ #[t, tx] o.type #[a.eval s, a.eval x]).run P w = .ok v' w') (h : wpList P ops Q rest (a.put o.dst v') w') : wpList P ops Q (o :: rest) a w :=
  wpList_plain hgd fun K hK => by
    unfold Oper.wp
    simp [execOp, ho, resolve, invoke, builtin, hr, Result.andThen]
    exact hK _ _ h
end
theorem RS.conv {w : World} {v : Value} {l : List UInt8} {src e dst : TypeId} (h : RS w v l) (hs : P.underlying src = some (.slice e)) (he : P.underlying e = some (.int .u8)) (hd : P.underlying dst = some .string) :
    (convert src dst v).run P w = .ok (.string (str l)) w := by
  rcases h with ⟨rfl, rfl⟩ | ⟨b, off, c, rfl, hb, hc, hj⟩
  · simp [convert, run_underlying hs, run_underlying hd, run_underlying he, str]
    try rfl
  · exact conv_bytes hs he hd b off l.length c l rfl hj
end

theorem quiet_cv {P : Program} {o : Oper} {a : Act} {C : World → Prop} {K : Act → Prop} (src dst : TypeId) (x : Operand) (ho : o.op = .convert src dst x) {v : Value} (hr : ∀ w, C w → (convert src dst (a.eval x)).run P w = .ok v w)
    (hk : K (a.put o.dst v)) : o.quiet P a C K :=
  ⟨v, fun w hw => by unfold Oper.quietAt execOp; simp only [ho, Sem.run_bind, hr w hw, Result.andThen_ok, Sem.run_pure]; exact ⟨rfl, rfl⟩, hk⟩
/-- A new variable that is a row of bytes, written whole. -/
theorem st_new {P : Program} (w : World) (l : List UInt8) (old : Array Value) (T : TypeId) (h : old.size = l.length) :
    ∃ w', (storeCells ⟨w.heap.size, 0, none⟩ (bvs l)).run P (w.alloc (.cells old T)) = .ok () w' ∧ Ext w w' ∧ w'.heap[w.heap.size]? = some (.cells (bvs l).toArray T (0, 0)) ∧ w.heap.size < w'.heap.size := by
  have hg : (w.alloc (.cells old T)).heap[w.heap.size]? = some (.cells old T (0, 0)) := heap_alloc_last _ _
  have hst := run_storeCells_at P w.heap.size 0 T (bvs l) 0 old _ hg (by simp [bvs]; omega) (one_bvs l)
  have hrow : old.toList.take (0 + 0) ++ bvs l ++ old.toList.drop (0 + 0 + (bvs l).length) = bvs l := by
    rw [List.drop_eq_nil_of_le (by simp [bvs]; omega)]
    simp
  rw [hrow] at hst
  exact ⟨_, hst, below_setRow ((Below.refl _ w).alloc (Nat.le_refl _) _) (Nat.le_refl _) _, setRow_heap _ _ _ _ _ _ hg, by simp [World.setRow]⟩

/-- A row of bytes in a block above w0's, written whole. -/
theorem st_at {P : Program} {w0 w : World} {g : Nat} {l : List UInt8} {old : Array Value} {T : TypeId} (h0 : Ext w0 w) (hw : w0.heap.size ≤ g) (hg : w.heap[g]? = some (.cells old T (0, 0))) (h : old.size = l.length) :
    ∃ w', (storeCells ⟨g, 0, none⟩ (bvs l)).run P w = .ok () w' ∧ Ext w0 w' ∧ w'.heap[g]? = some (.cells (bvs l).toArray T (0, 0)) ∧ (∀ k o, k ≠ g → w.heap[k]? = some o → w'.heap[k]? = some o) ∧ w.heap.size ≤ w'.heap.size := by
  have hst := run_storeCells_at P g 0 T (bvs l) 0 old _ hg (by simp [bvs]; omega) (one_bvs l)
  have hrow : old.toList.take (0 + 0) ++ bvs l ++ old.toList.drop (0 + 0 + (bvs l).length) = bvs l := by
    rw [List.drop_eq_nil_of_le (by simp [bvs]; omega)]
    simp
  rw [hrow] at hst
  exact ⟨_, hst, below_setRow h0 hw _, setRow_heap _ _ _ _ _ _ hg, fun k o hk ho => by rw [← ho]; exact setRow_other w g k _ hk, by simp [World.setRow]⟩

theorem made_bytes (n : Nat) : madeCells #[bv 0] n = (bvs (List.replicate n 0)).toArray := by
  apply Array.ext'
  rw [toList_madeCells_one]
  simp [bvs]
theorem own_made {w : World} {B c : Nat} {T : TypeId} (hB : B ≤ w.heap.size) : Own (w.alloc (.cells (bvs (List.replicate c 0)).toArray T)) B T (.slice (some ⟨w.heap.size, 0, none⟩) 0 c) [] c :=
  ⟨w.heap.size, List.replicate c 0, rfl, hB, heap_alloc_new w _, by simp⟩
end Go.Proofs.Yteahlnoonmfjhaa
