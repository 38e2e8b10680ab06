/- Readers whose bytes are their own; lists of structs of two numbers that came in. -/
import Derived.Test.YtaccjneglaomhaaRdM
import Derived.Test.YtaccjneglaomhaaCalmW
import Derived.Test.YtaccjneglaomhaaLiftB
import Derived.Deep.Slices
import Derived.Deep.Fields
import Derived.ChangeSame
set_option linter.unusedVariables false
namespace Go.Proofs.Ytaccjneglaomhaa
open Go.RowKit

/-- A reader in block g, not bad; it and its bytes lie in blocks from B on. -/
def Rdo (T : TypeId) (w : World) (B g : Nat) (l : List UInt8) : Prop := ∃ v, w.heap[g]? = some (.cells #[v, .bool false] T (0, 0)) ∧ OwnZ w B 5 v l ∧ B ≤ g
theorem Rdo.rd {T : TypeId} {w : World} {B g : Nat} {l : List UInt8} (h : Rdo T w B g l) : Rd T w g (some l) := by
  obtain ⟨v, hg, ho, _⟩ := h
  obtain ⟨A, c, rfl⟩ := ho.rs.form
  exact ⟨A, c, hg, ho.rs⟩
theorem OwnZ.but {w w' : World} {B g : Nat} {T : TypeId} {v : Value} {l : List UInt8} (h : OwnZ w B T v l) (k : But g w w') (hg : g < B) : OwnZ w' B T v l := by
  rcases h with h | ⟨c, g', junk, rfl, hB, hh, hc⟩
  · exact .inl h
  · exact .inr ⟨c, g', junk, rfl, hB, (k.block g' (Array.getElem?_eq_some_iff.1 hh).1 (by simp; omega)).trans hh, hc⟩
theorem Rdo.but {T : TypeId} {w w' : World} {B g g' : Nat} {l : List UInt8} (h : Rdo T w B g l) (k : But g' w w') (hg : g' < B) : Rdo T w' B g l := by
  obtain ⟨v, hh, ho, hB⟩ := h
  exact ⟨v, (k.block g (Array.getElem?_eq_some_iff.1 hh).1 (by simp; omega)).trans hh, ho.but k hg, hB⟩
theorem Rdo.ext {T : TypeId} {w w' : World} {B g : Nat} {l : List UInt8} (h : Rdo T w B g l) (k : Ext w w') : Rdo T w' B g l := by
  obtain ⟨v, hh, ho, hB⟩ := h
  exact ⟨v, (k.block g (Array.getElem?_eq_some_iff.1 hh).1).trans hh, ho.ext k, hB⟩
theorem Rdo.mono {T : TypeId} {w : World} {B B' g : Nat} {l : List UInt8} (h : Rdo T w B g l) (k : B' ≤ B) : Rdo T w B' g l := by
  obtain ⟨v, hh, ho, hB⟩ := h
  exact ⟨v, hh, ho.mono k, by omega⟩

theorem newReader_o (v : Value) (l : List UInt8) (w : World) (hv : RS w v l) (h : l.length ≤ 900000) :
    Calls Try.prog 36 #[v] w fun e w' => ∃ g, e = .returned (.pointer (some ⟨g, 0, none⟩)) ∧ Rdo 92 w' w.heap.size g l ∧ Below w.heap.size w w' := by
  go_enter Try.func36, Try.ntmps36
  go_wp2_with fail
  refine (clone_any v l w hv h).mono ?_
  rintro e w1 ⟨v1, rfl, o1, b1⟩
  obtain ⟨A, c, rfl⟩ := o1.rs.form
  go_wp2_with fail
  go_ret
  exact ⟨_, rfl, ⟨_, heap_alloc_last _ _, o1.ext (ext_alloc _ _), b1.size⟩, Below.trans b1 ((ext_alloc w1 _ : Ext _ _).mono b1.size)⟩

theorem rnewReader_o (v : Value) (l : List UInt8) (w : World) (hv : RS w v l) (h : l.length ≤ 900000) :
    Calls Try.prog 37 #[v] w fun e w' => ∃ g, e = .returned (.pointer (some ⟨g, 0, none⟩)) ∧ Rdo 67 w' w.heap.size g l ∧ Below w.heap.size w w' := by
  obtain ⟨A, c, rfl⟩ := hv.form
  obtain ⟨v0, w0, hr0, ho0, hb0⟩ := appZ (ty := 22) (own_none (w := w) (T := 5)).z (srcS (hv.ext (ext_alloc w _))) (by simp) (by simp; omega)
  have hx0 : Ext w w0 := Below.trans (ext_alloc w _) hb0
  rw [List.nil_append] at ho0
  obtain ⟨A0, c0, rfl⟩ := ho0.rs.form
  go_enter Try.func37, Try.ntmps37
  go_wp2_with (at_builtin; refine wpList_app rfl _ _ _ _ rfl hr0 ?_)
  go_ret
  exact ⟨_, rfl, ⟨_, heap_alloc_last _ _, ho0.ext (ext_alloc _ _), hx0.size⟩, Below.trans hx0 ((ext_alloc w0 _ : Ext _ _).mono hx0.size)⟩

/-- A contract that leaves the world alone, as one that only adds to memory. -/
theorem same_ext {P : Program} {f : FuncId} {args : Array Value} {w : World} {v : Value} (h : Calls P f args w fun e w' => e = .returned v ∧ w' = w) : Calls P f args w fun e w' => e = .returned v ∧ Below w.heap.size w w' :=
  h.mono fun _ _ ⟨h1, h2⟩ => ⟨h1, by subst h2; exact Below.refl _ _⟩

/-- A slice of structs of a byte and an int. -/
def SS (w : World) (v : Value) (l : List (Int × Int)) : Prop :=
  (v = .slice none 0 0 ∧ l = []) ∨ ∃ b off c, v = .slice (some ⟨b, off, none⟩) l.length c ∧ b < w.heap.size ∧ l.length ≤ c ∧
    ∀ j (h : j < l.length), w.cell? ⟨b, off + j * 2, none⟩ = some (.int .u8 l[j].1) ∧ w.cell? ⟨b, off + j * 2 + 1, none⟩ = some (.int .i64 l[j].2)
theorem SS.form {w : World} {v : Value} {l : List (Int × Int)} (h : SS w v l) : ∃ A c, v = .slice A l.length c := by
  rcases h with ⟨rfl, rfl⟩ | ⟨b, off, c, rfl, _⟩
  · exact ⟨none, 0, rfl⟩
  · exact ⟨_, c, rfl⟩
theorem SS.below {w w' : World} {B : Nat} {v : Value} {l : List (Int × Int)} (h : SS w v l) (hB : w.heap.size ≤ B) (k : Below B w w') : SS w' v l := by
  rcases h with h | ⟨b, off, c, rfl, hb, hc, hj⟩
  · exact .inl h
  · exact .inr ⟨b, off, c, rfl, Nat.lt_of_lt_of_le hb k.size, hc, fun j h => ⟨(k.cell (p := ⟨b, off + j * 2, none⟩) (show b < B by omega)).trans (hj j h).1, (k.cell (p := ⟨b, off + j * 2 + 1, none⟩) (show b < B by omega)).trans (hj j h).2⟩⟩
theorem SS.some_of {w : World} {A : Option Addr} {n c : Nat} {l : List (Int × Int)} (h : SS w (.slice A n c) l) (hl : 0 < l.length) : ∃ b off, A = some ⟨b, off, none⟩ ∧ n = l.length ∧ b < w.heap.size ∧ n ≤ c ∧
    ∀ j (h : j < l.length), w.cell? ⟨b, off + j * 2, none⟩ = some (.int .u8 l[j].1) ∧ w.cell? ⟨b, off + j * 2 + 1, none⟩ = some (.int .i64 l[j].2) := by
  rcases h with ⟨_, h⟩ | ⟨b, off, c', h, hb, hc, hj⟩
  · subst h; simp at hl
  · simp only [Value.slice.injEq] at h
    obtain ⟨rfl, rfl, rfl⟩ := h
    exact ⟨b, off, rfl, rfl, hb, hc, hj⟩

structure StepsT where
  v : Value
  l : List (Int × Int)
structure StepsT.Ok (w : World) (x : StepsT) : Prop where
  ss : SS w x.v x.l
  len : x.l.length ≤ maxLen
end Go.Proofs.Ytaccjneglaomhaa
namespace Go.Proofs.Ytaccjneglaomhaa
open Go.RowKit Go.ChangeShapes Go.WideShapes Go.ChangeAt Go.Deep
section
variable {H : Type} {enc : TypeId × Value → H} {P : Program} {w : World} {base : Nat} {spare : Nat → Bool} {held : Bool}
theorem open_slice_fields {t e : TypeId} {fs : Array Field} {fuel : Nat} {cs : List Value} {x : DataW H × List MemPlace} (ht : P.underlying t = some (.slice e)) (he : P.underlying e = some (.struct fs))
    (hone : oneCellFields P fs = true) (hC : P.cellsOf e = fs.size) (h : DataW.trod enc P w base spare held fuel t cs = some x) :
    (cs = [.slice none 0 0] ∧ x = (.nil, [])) ∨
    ∃ (a : Addr) (len cap m : Nat) (D : Nat → DataW H) (Pl : Nat → List MemPlace), cs = [.slice (some a) len cap] ∧ base ≤ a.block ∧ len ≤ cap ∧ cap ≤ maxLen ∧ m = (if spare a.block then cap else len) ∧
      x = (.slice ((List.range len).map D) ((List.range (m - len)).map fun j => D (len + j)), MemPlace.row a (m * fs.size) ++ (List.range m).flatMap Pl) ∧
      ∀ i, i < m → ∃ (ys : List (DataW H × List MemPlace)) (n : Nat), D i = .agg (ys.map (·.1)) ∧ Pl i = ys.flatMap (·.2) ∧ ys.length = fs.size ∧
        ∀ (j : Nat) (f : Field), fs[j]? = some f → ∃ (v : Value) (y : DataW H × List MemPlace), w.cell? (a.add (i * fs.size + j)) = some v ∧ ys[j]? = some y ∧ DataW.trod enc P w base spare held n f.type [v] = some y := by
  rcases open_slice ht h with h0 | ⟨a, len, cap, m, n, D, Pl, hcs, hb, hl, hm, hmm, hx, hi⟩
  · exact .inl h0
  · refine .inr ⟨a, len, cap, m, D, Pl, hcs, hb, hl, hm, hmm, by rw [hC] at hx; exact hx, fun i him => ?_⟩
    obtain ⟨cs', hc, ht'⟩ := hi i him
    rw [hC] at hc
    obtain ⟨ys, n', hn', hy, hlen, hyl, hf⟩ := DataW.trod_struct he ht'
    obtain ⟨_, hcl, hat⟩ := World.cells?_some hc
    simp only [Prod.mk.injEq] at hy
    refine ⟨ys, n', hy.1, hy.2, hyl, fun j f hj => ?_⟩
    obtain ⟨ho, hk⟩ := hone_of hone j f hj
    have hjl : j < fs.size := (Array.getElem?_eq_some_iff.1 hj).1
    have hcell := hat j hjl
    have hv : cs'[j]? = some (cs'[j]'(by omega)) := List.getElem?_eq_getElem (by omega)
    have h1 := hf j f hj
    rw [ho, hk] at h1
    have hone' : (cs'.drop j).take 1 = [cs'[j]'(by omega)] := by
      rw [List.drop_eq_getElem_cons (by omega)]
      rfl
    rw [hone'] at h1
    have hys : ys[j]? = some (ys[j]'(by omega)) := List.getElem?_eq_getElem (by omega)
    refine ⟨_, _, ?_, hys, h1.trans hys⟩
    rw [← Go.Deep.add_add, hcell, hv]
end
section
variable {H : Type} {enc : TypeId × Value → H} {P : Program} {W : World} {base : Nat} {b0 : Nat} {spare : Nat → Bool} {held : Bool}
theorem open_steps {t e tk tn : TypeId} {f0 f1 : Field} {v : Value} {d : DataW H} {p : List MemPlace} {r : Reach} (ht : P.underlying t = some (.slice e)) (he : P.underlying e = some (.struct #[f0, f1])) (h0 : f0.type = tk) (h1 : f1.type = tn)
    (hk : P.underlying tk = some (.int .u8)) (hn : P.underlying tn = some (.int .i64)) (hone : oneCellFields P #[f0, f1] = true) (hC : P.cellsOf e = 2)
    (hv : Value.okWide P W r b0 t v) (h : DataW.Trod enc P W base spare held t v d p) : ∃ x : StepsT, v = x.v ∧ x.Ok W := by
  subst h0 h1
  obtain ⟨a0, len, cap, rfl⟩ := okWide_slice ht hv
  obtain ⟨m, hm⟩ := h
  rcases open_slice_fields ht he hone hC hm with ⟨e0, _⟩ | ⟨a, len', cap', m', D, Pl, e0, hb, hl, hcap, hz, _, hi⟩
  · obtain ⟨rfl, rfl, rfl⟩ : a0 = none ∧ len = 0 ∧ cap = 0 := by simpa [Value.cells] using e0
    exact ⟨⟨_, []⟩, rfl, .inl ⟨rfl, rfl⟩, Nat.zero_le _⟩
  · obtain ⟨rfl, rfl, rfl⟩ : a0 = some a ∧ len = len' ∧ cap = cap' := by simpa [Value.cells] using e0
    obtain ⟨hs, hlt⟩ := has_slice ht hv
    obtain ⟨b, off, spot⟩ := a
    simp only at hs
    subst hs
    have key : ∀ i, i < len → ∃ q : Int × Int, W.cell? ⟨b, off + i * 2, none⟩ = some (.int .u8 q.1) ∧ W.cell? ⟨b, off + i * 2 + 1, none⟩ = some (.int .i64 q.2) := by
      intro i hil
      obtain ⟨ys, n, _, _, _, hf⟩ := hi i (by rw [hz]; split <;> omega)
      obtain ⟨v0, y0, hc0, _, t0⟩ := hf 0 f0 rfl
      obtain ⟨v1, y1, hc1, _, t1⟩ := hf 1 f1 rfl
      obtain ⟨x0, e0, _, _⟩ := DataW.trod_int hk t0
      obtain ⟨x1, e1, _, _⟩ := DataW.trod_int hn t1
      simp at e0 e1
      subst e0 e1
      refine ⟨(x0, x1), ?_, ?_⟩
      · rw [← hc0, Addr.add_lit]; rfl
      · rw [← hc1, Addr.add_lit]; rfl
    let q : Nat → Int × Int := fun i => if h : i < len then (key i h).choose else (0, 0)
    have hq : ∀ i, i < len → W.cell? ⟨b, off + i * 2, none⟩ = some (.int .u8 (q i).1) ∧ W.cell? ⟨b, off + i * 2 + 1, none⟩ = some (.int .i64 (q i).2) := by
      intro i hil
      have := (key i hil).choose_spec
      simp only [q, dif_pos hil]
      exact this
    refine ⟨⟨_, (List.range len).map q⟩, rfl, .inr ⟨b, off, cap, by simp, hlt, by simp; omega, fun j hj => ?_⟩, by simp; omega⟩
    simp only [List.length_map, List.length_range] at hj
    simpa using hq j hj
end
theorem open_Wsteps {H : Type} {enc : TypeId × Value → H} {W : World} {base : Nat} {b0 : Nat} {spare : Nat → Bool} {held : Bool} {v : Value} {d : DataW H} {p : List MemPlace} {r : Reach}
    (hv : Value.okWide Try.prog W r b0 53 v) (h : DataW.Trod enc Try.prog W base spare held 53 v d p) : ∃ x : StepsT, v = x.v ∧ x.Ok W :=
  open_steps Try.underlying53 Try.underlying59 rfl rfl Try.underlying5 Try.underlying3 (by kernel_rfl) (by kernel_rfl) hv h
end Go.Proofs.Ytaccjneglaomhaa
