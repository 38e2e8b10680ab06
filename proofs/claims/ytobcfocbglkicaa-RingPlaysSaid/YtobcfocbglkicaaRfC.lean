/- The document's disk in memory: rows of its writes, steps on its cells; fails, New. -/
import Derived.Test.YtobcfocbglkicaaRfB
import Derived.Test.YtobcfocbglkicaaDkN
set_option linter.unusedVariables false
set_option maxRecDepth 100000
namespace Go.Proofs.Ytobcfocbglkicaa
open Go.RowKit

/-! Rows of writes. -/
theorem rwC_length {p : RW} (h : p.2.1.length = 512) : (rwC p).length = 514 := by simp [rwC, bvs, h]
theorem rwC_one (p : RW) : ∀ u ∈ rwC p, One u := by
  intro u hu
  rcases List.mem_cons.1 hu with rfl | hu
  · rfl
  · rcases List.mem_append.1 hu with hu | hu
    · obtain ⟨b, _, rfl⟩ := List.mem_map.1 hu
      rfl
    · rw [List.mem_singleton.1 hu]; rfl
theorem rwcs_one (l : List RW) : ∀ u ∈ rwcs l, One u := by
  intro u hu
  obtain ⟨p, _, hp⟩ := List.mem_flatMap.1 hu
  exact rwC_one p u hp
theorem rwcs_app (l m : List RW) : rwcs (l ++ m) = rwcs l ++ rwcs m := by simp [rwcs]
theorem rwcs_single (p : RW) : rwcs [p] = rwC p := by simp [rwcs]
theorem rwcs_length : ∀ (l : List RW), (∀ p ∈ l, p.2.1.length = 512) → (rwcs l).length = l.length * 514
  | [], _ => by simp [rwcs]
  | p :: l, h => by
    have ih := rwcs_length l fun q hq => h q (List.mem_cons_of_mem _ hq)
    have h1 := rwC_length (h p (by simp))
    show (rwC p ++ rwcs l).length = _
    rw [List.length_append, ih, h1, List.length_cons]
    omega
theorem rwcs_get : ∀ (l : List RW), (∀ p ∈ l, p.2.1.length = 512) → ∀ {i : Nat} {p : RW}, l[i]? = some p → ∀ {j : Nat}, j < 514 → (rwcs l)[i * 514 + j]? = (rwC p)[j]?
  | [], _, i, p, h, _, _ => by simp at h
  | q :: l, h, i, p, hi, j, hj => by
    have h1 := rwC_length (h q (by simp))
    show (rwC q ++ rwcs l)[_]? = _
    cases i with
    | zero =>
      simp only [List.getElem?_cons_zero, Option.some.injEq] at hi
      subst hi
      rw [Nat.zero_mul, Nat.zero_add, List.getElem?_append_left (by omega)]
    | succ i =>
      simp only [List.getElem?_cons_succ] at hi
      rw [List.getElem?_append_right (by omega), h1, show (i + 1) * 514 + j - 514 = i * 514 + j by omega]
      exact rwcs_get l (fun q hq => h q (List.mem_cons_of_mem _ hq)) hi hj
/-- What is read of an element. -/
theorem rw_cells {w : World} {B c i : Nat} {A : Option Addr} {l : List RW} {p : RW} (h : OwnR w B 118 514 One (.slice A l.length c) l.length (rwcs l)) (hl : ∀ q ∈ l, q.2.1.length = 512) (hi : l[i]? = some p) :
    ∃ g, A = some ⟨g, 0, none⟩ ∧ w.cell? ⟨g, i * 514, none⟩ = some (.int .i64 p.1) ∧ w.cell? ⟨g, i * 514 + 513, none⟩ = some (.bool p.2.2) ∧ (Instr.loadAt 25 (.pointer (some ⟨g, i * 514 + 1, none⟩))).run Try.prog w = .ok (bval p.2.1) w ∧ g < w.heap.size ∧ l.length ≤ c := by
  have hil := (List.getElem?_eq_some_iff.1 hi).1
  have hp := hl _ (List.mem_of_getElem? hi)
  obtain ⟨g, hA, _, hlt, hcc, hc⟩ := h.cells (by omega)
  have hcell : ∀ {j : Nat} {v : Value}, j < 514 → (rwC p)[j]? = some v → w.cell? ⟨g, i * 514 + j, none⟩ = some v := fun {j v} hj hv => by
    have hg := rwcs_get l hl hi hj
    rw [hv] at hg
    obtain ⟨h1, h2⟩ := List.getElem?_eq_some_iff.1 hg
    rw [hc _ h1, h2]
  refine ⟨g, hA, hcell (j := 0) (by omega) rfl, hcell (j := 513) (by omega) ?_, loadAt_bk hp fun j hj => ?_, hlt, hcc (by omega)⟩
  · unfold rwC
    rw [List.getElem?_cons_succ, List.getElem?_append_right (by simp [bvs, hp])]
    simp [bvs, hp]
  · rw [show i * 514 + 1 + j = i * 514 + (j + 1) by omega]
    refine hcell (j := j + 1) (by omega) ?_
    unfold rwC
    rw [List.getElem?_cons_succ, List.getElem?_append_left (by simp [bvs]; exact hj)]
    simp [bvs, hj]

/-! A write as a value. -/
theorem fill_step {pl : Nat → Option (Nat × Nat)} {i o n : Nat} {x : Value} {cs A B C : List Value} (hp : pl i = some (o, n)) (hx : x.cells = cs.toArray) (hn : cs.length = n) (hA : A.length = o) (hB : B.length = n) (rest : List (Nat × Value)) :
    Instr.fill pl (A ++ B ++ C).toArray ((i, x) :: rest) = Instr.fill pl (A ++ cs ++ C).toArray rest := by
  have h1 := Go.Great.foldl_set o cs 0 (A ++ B ++ C).toArray
  have e1 : (cs.toArray.zipIdx.foldl (fun cs (y : Value × Nat) => cs.setIfInBounds (o + y.2) y.1) (A ++ B ++ C).toArray) = (A ++ cs ++ C).toArray := by
    rw [← Array.foldl_toList, Array.toList_zipIdx]
    apply Array.ext_getElem?
    intro k
    rw [h1.2 k]
    simp only [Nat.add_zero, List.size_toArray, List.length_append, List.getElem?_toArray]
    by_cases hk : o ≤ k ∧ k < o + cs.length
    · rw [if_pos ⟨hk.1, hk.2, by omega⟩, List.append_assoc, List.getElem?_append_right (by omega), List.getElem?_append_left (by omega), hA]
    · rw [if_neg fun h => hk ⟨h.1, h.2.1⟩]
      by_cases hk2 : k < o
      · rw [List.append_assoc, List.append_assoc, List.getElem?_append_left (by omega), List.getElem?_append_left (by omega)]
      · rw [List.getElem?_append_right (by simp; omega), List.getElem?_append_right (by simp; omega)]
        simp [hB, hn]
  conv => lhs; unfold Instr.fill
  simp only [hp, hx]
  rw [if_neg (by simp; omega), e1]
theorem rw_prt : ∃ i, Try.prog.info? 118 = some i ∧ i.zero = some (.agg (rwC (0, zB, false)).toArray) ∧ i.size = 514 ∧ i.bytes = 528 := by
  have h : (Try.prog.info? 118).map (fun i => (i.zero, i.size, i.bytes)) = some (some (.agg (rwC (0, zB, false)).toArray), 514, 528) := by kernel_rfl
  exact info_prt h
theorem build_rw3 (z : Int) {b : List UInt8} (hb : b.length = 512) (o : Bool) (w : World) : (Instr.build 118 #[(0, .int .i64 z), (1, .agg (bvs b).toArray), (2, .bool o)]).run Try.prog w = .ok (.agg (rwC (z, b, o)).toArray) w := by
  refine run_build w _ _ _ ?_
  obtain ⟨i, hi, hz0, _, _⟩ := rw_prt
  obtain ⟨fs, hu, hp⟩ : ∃ fs, Try.prog.underlying 118 = some (.struct fs) ∧ fs.toList.mapM (fun f => (Try.prog.info? f.type).map fun i => (f.offset, i.size)) = some [(0, 1), (1, 512), (513, 1)] := ⟨_, Try.underlying118, by kernel_rfl⟩
  unfold Program.built
  rw [hi, hu]
  simp only [hz0, hp]
  have s1 := fill_step (pl := fun i => [(0, 1), (1, 512), (513, 1)][i]?) (i := 0) (x := .int .i64 z) (cs := [.int .i64 z]) (A := []) (B := [.int .i64 0]) (C := bvs zB ++ [.bool false]) rfl rfl rfl rfl rfl [(1, .agg (bvs b).toArray), (2, .bool o)]
  have s2 := fill_step (pl := fun i => [(0, 1), (1, 512), (513, 1)][i]?) (i := 1) (x := .agg (bvs b).toArray) (cs := bvs b) (A := [.int .i64 z]) (B := bvs zB) (C := [.bool false]) rfl rfl (by simp [bvs, hb]) rfl (by simp [bvs, zB]) [(2, .bool o)]
  have s3 := fill_step (pl := fun i => [(0, 1), (1, 512), (513, 1)][i]?) (i := 2) (x := .bool o) (cs := [.bool o]) (A := .int .i64 z :: bvs b) (B := [.bool false]) (C := []) rfl rfl rfl (by simp [bvs, hb]) rfl []
  simp only [List.nil_append, List.cons_append, List.append_nil] at s1 s2 s3
  refine s1.trans (s2.trans (s3.trans ?_))
  simp [Instr.fill, rwC]
theorem build_rw2 (z : Int) {b : List UInt8} (hb : b.length = 512) (w : World) : (Instr.build 118 #[(0, .int .i64 z), (1, .agg (bvs b).toArray)]).run Try.prog w = .ok (.agg (rwC (z, b, false)).toArray) w := by
  refine run_build w _ _ _ ?_
  obtain ⟨i, hi, hz0, _, _⟩ := rw_prt
  obtain ⟨fs, hu, hp⟩ : ∃ fs, Try.prog.underlying 118 = some (.struct fs) ∧ fs.toList.mapM (fun f => (Try.prog.info? f.type).map fun i => (f.offset, i.size)) = some [(0, 1), (1, 512), (513, 1)] := ⟨_, Try.underlying118, by kernel_rfl⟩
  unfold Program.built
  rw [hi, hu]
  simp only [hz0, hp]
  have s1 := fill_step (pl := fun i => [(0, 1), (1, 512), (513, 1)][i]?) (i := 0) (x := .int .i64 z) (cs := [.int .i64 z]) (A := []) (B := [.int .i64 0]) (C := bvs zB ++ [.bool false]) rfl rfl rfl rfl rfl [(1, .agg (bvs b).toArray)]
  have s2 := fill_step (pl := fun i => [(0, 1), (1, 512), (513, 1)][i]?) (i := 1) (x := .agg (bvs b).toArray) (cs := bvs b) (A := [.int .i64 z]) (B := bvs zB) (C := [.bool false]) rfl rfl (by simp [bvs, hb]) rfl (by simp [bvs, zB]) []
  simp only [List.nil_append, List.cons_append] at s1 s2
  refine s1.trans (s2.trans ?_)
  simp [Instr.fill, rwC]
theorem bs_rw (p : RW) (hp : p.2.1.length = 512) (w : World) : (Instr.buildSlice 114 1 #[(0, .agg (rwC p).toArray)]).run Try.prog w = .ok (.slice (some ⟨w.heap.size, 0, none⟩) 1 1) (w.alloc (.cells (rwC p).toArray 118)) := by
  obtain ⟨i, hi, hz0, hz1, _⟩ := rw_prt
  have hl := rwC_length hp
  refine Go.run_buildSlice w 114 118 1 _ (rwC p).toArray i _ Try.underlying114 hi hz0 (by rw [hz1]; omega) (by rw [hz1]; omega) ?_
  have e1 : (#[((0 : Nat), Value.agg (rwC p).toArray)] : Array (Nat × Value)).toList = (([Value.agg (rwC p).toArray] : List Value).zipIdx 0).map fun x => (x.2, x.1) := rfl
  rw [e1, hz1, Go.Great.fill_whole (by omega) _ _ (by simp [Value.cells, hl]) (by simp)]
  simp [Value.cells]
theorem app_rw {w : World} {B n : Nat} {v x : Value} {cs : List Value} {m : Nat} {new : List Value} {tx ty : TypeId} (ho : OwnR w B 118 514 One v n cs) (hs : Src Try.prog 514 tx x m new w) (hB : B ≤ w.heap.size) (hn : ∀ u ∈ new, One u) (hc : n + m ≤ 100000000) :
    ∃ v' w', (Builtin.append_ #[114, tx] ty #[v, x]).run Try.prog w = .ok v' w' ∧ OwnR w' B 118 514 One v' (n + m) (cs ++ new) ∧ Below B w w' ∧ w.grownBy w' v.ownBlock ∧ (∀ b, v'.ownBlock = some b → v.ownBlock = some b ∨ w.heap.size ≤ b) := by
  have h1 : (rwC (0, zB, false)).length = 514 := rwC_length zB_length
  have h2 := rwC_one (0, zB, false)
  obtain ⟨i, hi, hz0, hz1, hz2⟩ := rw_prt
  generalize rwC (0, zB, false) = Z at *
  refine appG2 (ty := ty) Try.underlying114 hi hz1 hz0 ?_ ho hs hB (by omega) hn (fun u hu => ?_) (by rw [hz2]; omega) (by omega)
  · show Z.toArray.size = 514
    simpa using h1
  · have hu' : u ∈ Z.toArray := hu
    exact h2 u (by simpa using hu')

/-! Steps on its cells. -/
/-- A call on the document's disk g of S, which makes it R. -/
def RfTo (S : Nat → Prop) (w w' : World) (g : Nat) (R : RF) : Prop := RfAt w' (gr S w w') g R ∧ Mut S w w'
theorem RfP.mono {w : World} {S S' : Nat → Prop} {g : Nat} {sv kv : Value} {R : RF} (h : RfP w S g sv kv R) (k : ∀ i, S i → S' i) : RfP w S' g sv kv R :=
  { h with sg := k _ h.sg, sl := fun b hb => k _ (h.sl b hb), sk := fun b hb => k _ (h.sk b hb) }
theorem RfAt.mono {w : World} {S S' : Nat → Prop} {g : Nat} {R : RF} (h : RfAt w S g R) (k : ∀ i, S i → S' i) : RfAt w S' g R := by
  obtain ⟨sv, kv, h⟩ := h
  exact ⟨sv, kv, h.mono k⟩
theorem RfP.ext {w w' : World} {S : Nat → Prop} {g : Nat} {sv kv : Value} {R : RF} (h : RfP w S g sv kv R) (k : Ext w w') : RfP w' S g sv kv R := h.mutw (T := fun _ => False) (Mut.of_ext k) fun _ _ h => h
theorem RfAt.ext {w w' : World} {S : Nat → Prop} {g : Nat} {R : RF} (h : RfAt w S g R) (k : Ext w w') : RfAt w' S g R := h.mutw (T := fun _ => False) (Mut.of_ext k) fun _ _ h => h
theorem RfTo.of_ext {w w' : World} {S : Nat → Prop} {g : Nat} {R : RF} (h : RfAt w S g R) (k : Ext w w') : RfTo S w w' g R := ⟨(h.ext k).mono fun i hi => .inl hi, Mut.of_ext k⟩
theorem RfTo.refl {w : World} {S : Nat → Prop} {g : Nat} {R : RF} (h : RfAt w S g R) : RfTo S w w g R := ⟨h.mono fun i hi => .inl hi, Mut.refl _ _⟩
theorem RfTo.trans {S : Nat → Prop} {a b c : World} {g : Nat} {R R' : RF} (h : RfTo S a b g R) (k : RfTo (gr S a b) b c g R') : RfTo S a c g R' := by
  refine ⟨k.1.mono fun i hi => ?_, h.2.os ▸ k.2.os, h.2.tape ▸ k.2.tape, h.2.output ▸ k.2.output, Nat.le_trans h.2.size k.2.size, fun i hi hn => (k.2.block i (Nat.lt_of_lt_of_le hi h.2.size) ?_).trans (h.2.block i hi hn)⟩
  · have h1 := h.2.size
    have h2 := k.2.size
    rcases hi with (hi | hi) | hi
    · exact .inl hi
    · exact .inr (by omega)
    · exact .inr (by omega)
  · rintro (h1 | h1)
    · exact hn h1
    · omega
theorem RfTo.after_ext {S : Nat → Prop} {a b c : World} {g : Nat} {R : RF} (h : Ext a b) (k : RfTo S b c g R) : RfTo S a c g R := by
  have hs := h.size
  have hs2 := k.2.size
  refine ⟨k.1.mono fun i hi => ?_, (Mut.of_ext h).trans k.2⟩
  rcases hi with hi | hi
  · exact .inl hi
  · exact .inr (by omega)
theorem RfTo.widen {S S' : Nat → Prop} {b c : World} {g : Nat} {R : RF} (h : RfTo S b c g R) (k : ∀ i, S i → S' i) : RfTo S' b c g R :=
  ⟨h.1.mono fun i hi => hi.imp (k i) id, h.2.mono k⟩
theorem Ext.blk {w w' : World} (k : Ext w w') {b : Nat} {o : Obj} (h : w.heap[b]? = some o) : w'.heap[b]? = some o := (k.block b (Array.getElem?_eq_some_iff.1 h).1).trans h
theorem own_gt {w : World} {B b : Nat} {T : TypeId} {sz : Nat} {C : Value → Prop} {v : Value} {n : Nat} {cs : List Value} (h : OwnR w B T sz C v n cs) (hb : v.ownBlock = some b) : B ≤ b ∧ b < w.heap.size := by
  refine ⟨?_, own_lt h hb⟩
  obtain ⟨_, ⟨rfl, _⟩ | ⟨g, c, junk, rfl, hB, hg, _⟩⟩ := h
  · simp [Value.ownBlock] at hb
  · obtain rfl : g = b := by simpa [Value.ownBlock] using hb
    exact hB
theorem blk5 {w : World} {g : Nat} {T : TypeId} {a b c d e : Value} (k : w.heap[g]? = some (.cells #[a, b, c, d, e] T (0, 0))) :
    w.cell? ⟨g, 0, none⟩ = some a ∧ w.cell? ⟨g, 1, none⟩ = some b ∧ w.cell? ⟨g, 2, none⟩ = some c ∧ w.cell? ⟨g, 3, none⟩ = some d ∧ w.cell? ⟨g, 4, none⟩ = some e ∧ (∀ o, w.frozen? ⟨g, o, none⟩ = false) ∧ g < w.heap.size :=
  ⟨by simp [World.cell?, k], by simp [World.cell?, k], by simp [World.cell?, k], by simp [World.cell?, k], by simp [World.cell?, k], fun o => by simp [World.frozen?, k], (Array.getElem?_eq_some_iff.1 k).1⟩
theorem set5_1 {w : World} {g : Nat} {T : TypeId} {a b c d e : Value} (x : Value) (k : w.heap[g]? = some (.cells #[a, b, c, d, e] T (0, 0))) : w.setCell ⟨g, 1, none⟩ x = w.setRow g #[a, x, c, d, e] := by
  rw [setCell_eq_setRow w g 1 _ T (0, 0) x k]; rfl
theorem set5_2 {w : World} {g : Nat} {T : TypeId} {a b c d e : Value} (x : Value) (k : w.heap[g]? = some (.cells #[a, b, c, d, e] T (0, 0))) : w.setCell ⟨g, 2, none⟩ x = w.setRow g #[a, b, x, d, e] := by
  rw [setCell_eq_setRow w g 2 _ T (0, 0) x k]; rfl
theorem set5_3 {w : World} {g : Nat} {T : TypeId} {a b c d e : Value} (x : Value) (k : w.heap[g]? = some (.cells #[a, b, c, d, e] T (0, 0))) : w.setCell ⟨g, 3, none⟩ x = w.setRow g #[a, b, c, x, e] := by
  rw [setCell_eq_setRow w g 3 _ T (0, 0) x k]; rfl
theorem set5_4 {w : World} {g : Nat} {T : TypeId} {a b c d e : Value} (x : Value) (k : w.heap[g]? = some (.cells #[a, b, c, d, e] T (0, 0))) : w.setCell ⟨g, 4, none⟩ x = w.setRow g #[a, b, c, d, x] := by
  rw [setCell_eq_setRow w g 4 _ T (0, 0) x k]; rfl
/-- Four of its cells are written, one behind the other. -/
theorem set5_1234 {w : World} {g : Nat} {T : TypeId} {a b c d e : Value} (x y z u : Value) (k : w.heap[g]? = some (.cells #[a, b, c, d, e] T (0, 0))) : (((w.setCell ⟨g, 1, none⟩ x).setCell ⟨g, 2, none⟩ y).setCell ⟨g, 3, none⟩ z).setCell ⟨g, 4, none⟩ u = w.setRow g #[a, x, y, z, u] := by
  have h1 := setRow_heap w g _ #[a, x, c, d, e] _ _ k
  have h2 := setRow_heap w g _ #[a, x, y, d, e] _ _ k
  have h3 := setRow_heap w g _ #[a, x, y, z, e] _ _ k
  rw [set5_1 x k, set5_2 y h1, setRow_setRow, set5_3 z h2, setRow_setRow, set5_4 u h3, setRow_setRow]
theorem RfP.cells {w : World} {S : Nat → Prop} {g : Nat} {sv kv : Value} {R R' : RF} (h : RfP w S g sv kv R) (sv' kv' : Value) (hn : R'.n = R.n)
    (hl : OwnR w 0 118 514 One sv' R'.L.length (rwcs R'.L)) (hk : OwnR w 0 4 1 One kv' R'.keep.length (bcs R'.keep)) (sl : ∀ b, sv'.ownBlock = some b → S b) (sk : ∀ b, kv'.ownBlock = some b → S b) (ok : ∀ p ∈ R'.L, p.2.1.length = 512) :
    RfP (w.setRow g #[.int .i64 R'.n, sv', .int .i64 R'.cut, kv', .bool R'.dead]) S g sv' kv' R' where
  hg := setRow_heap _ _ _ _ _ _ h.hg
  l := hl.set h.hg (by decide)
  kp := hk.set h.hg (by decide)
  sg := h.sg
  sl := sl
  sk := sk
  ok := ok
theorem rfTo_set {w : World} {S : Nat → Prop} {g : Nat} {sv kv : Value} {R' : RF} {row : Array Value} (h : RfP (w.setRow g row) S g sv kv R') (hs : S g) : RfTo S w (w.setRow g row) g R' :=
  ⟨⟨_, _, h.mono fun i hi => .inl hi⟩, mut_setRow hs _⟩
theorem RfP.at {w : World} {S : Nat → Prop} {g : Nat} {sv kv : Value} {R : RF} (h : RfP w S g sv kv R) : RfAt w S g R := ⟨sv, kv, h⟩
/-- Behind calls that made memory alone, it takes rows of that memory. -/
theorem RfP.take {S : Nat → Prop} {w0 w1 : World} {g : Nat} {sv kv : Value} {R R' : RF} (h : RfP w0 S g sv kv R) (k : Ext w0 w1) (sv' kv' : Value) (hn : R'.n = R.n)
    (hl : OwnR w1 0 118 514 One sv' R'.L.length (rwcs R'.L)) (hk : OwnR w1 0 4 1 One kv' R'.keep.length (bcs R'.keep)) (sl : ∀ b, sv'.ownBlock = some b → S b ∨ (w0.heap.size ≤ b ∧ b < w1.heap.size)) (sk : ∀ b, kv'.ownBlock = some b → S b ∨ (w0.heap.size ≤ b ∧ b < w1.heap.size)) (ok : ∀ p ∈ R'.L, p.2.1.length = 512) :
    RfTo S w0 (w1.setRow g #[.int .i64 R'.n, sv', .int .i64 R'.cut, kv', .bool R'.dead]) g R' := by
  have h2 : RfP w1 (gr S w0 w1) g sv kv R := (h.ext k).mono fun i hi => .inl hi
  have h3 := h2.cells (R' := R') sv' kv' hn hl hk sl sk ok
  refine ⟨⟨_, _, h3.mono fun i hi => ?_⟩, (Mut.of_ext k).trans (mut_setRow h.sg _)⟩
  rcases hi with hi | hi
  · exact .inl hi
  · exact .inr (by simp [World.setRow]; omega)

/-! fails, New. -/
set_option maxHeartbeats 1000000 in
theorem fails_any {S : Nat → Prop} {g : Nat} {R : RF} (w : World) (h : RfAt w S g R) (hc : 0 ≤ R.cut ∧ R.cut ≤ 9223372036854775807) :
    Calls Try.prog 75 #[.pointer (some ⟨g, 0, none⟩)] w fun e w' => e = .returned (.bool R.fails.2) ∧ RfTo S w w' g R.fails.1 := by
  have F0 := RfTo.refl h
  obtain ⟨sv, kv, h⟩ := h
  obtain ⟨c0, c1, c2, c3, c4, fz, hlt⟩ := blk5 h.hg
  obtain ⟨hc0, hc1⟩ := hc
  obtain ⟨n, L, cut, kp, dead⟩ := R
  simp only at c0 c1 c2 c3 c4 hc0 hc1
  by_cases h0 : cut = 0
  · subst h0
    rw [show RF.fails ⟨n, L, 0, kp, dead⟩ = (⟨n, L, 0, kp, dead⟩, false) from rfl]
    have F := Lib.hid F0
    clear h F0
    go_enter Try.func75, Try.ntmps75
    go_wp2
    go_ret
    exact ⟨rfl, F.out⟩
  · have hs := set5_2 (.int .i64 (cut - 1)) h.hg
    have h1 := h.cells (R' := ⟨n, L, cut - 1, kp, dead⟩) sv kv rfl h.l h.kp h.sl h.sk h.ok
    have hT := rfTo_set h1 h.sg
    simp only at hT hs
    rw [← hs] at hT
    have F := Lib.hid hT
    have e : RF.fails ⟨n, L, cut, kp, dead⟩ = (⟨n, L, cut - 1, kp, dead⟩, decide (cut - 1 = 0)) := by simp only [RF.fails]; rw [if_neg h0]
    rw [e]
    obtain ⟨b, hb⟩ : ∃ b, decide (cut - 1 = 0) = b := ⟨_, rfl⟩
    have hb2 : (cut - 1 == 0) = b := hb
    simp only [hb]
    clear h h1 hT hs F0 e hb
    go_enter Try.func75, Try.ntmps75
    go_wp2_with fail
    go_ret
    exact ⟨by first | rfl | simp [hb2], F.out⟩
theorem rnew_ok (n : Int) (w : World) (h0 : 64 ≤ n) (h1 : n ≤ 8192) : Calls Try.prog 38 #[.int .i64 n] w fun e w' => ∃ g, e = .returned (.tuple #[.pointer (some ⟨g, 0, none⟩), .int .i64 0]) ∧ RfAt w' (fun i => w.heap.size ≤ i ∧ i < w'.heap.size) g ⟨n, [], 0, [], false⟩ ∧ Ext w w' := by
  have F : Hid (RfAt (w.alloc (.cells #[.int .i64 n, .slice none 0 0, .int .i64 0, .slice none 0 0, .bool false] 116)) (fun i => w.heap.size ≤ i ∧ i < (w.alloc (.cells #[.int .i64 n, .slice none 0 0, .int .i64 0, .slice none 0 0, .bool false] 116)).heap.size) w.heap.size ⟨n, [], 0, [], false⟩) := Lib.hid
    ⟨.slice none 0 0, .slice none 0 0, { hg := heap_alloc_last _ _, l := OwnR.nil, kp := OwnR.nil, sg := ⟨Nat.le_refl _, by simp⟩, sl := by simp [Value.ownBlock], sk := by simp [Value.ownBlock], ok := by simp }⟩
  have X := Lib.hid (extAl w (.cells #[.int .i64 n, .slice none 0 0, .int .i64 0, .slice none 0 0, .bool false] 116))
  go_enter Try.func38, Try.ntmps38
  go_wp2
  exact bodyPost_ret (v := .tuple #[.pointer (some ⟨w.heap.size, 0, none⟩), .int .i64 0]) (by simp only [results, Try.results38]; go_simp) rfl ⟨_, rfl, F.out, X.out⟩
theorem rnew_no (n : Int) (w : World) (hn : ¬ (64 ≤ n ∧ n ≤ 8192)) : Calls Try.prog 38 #[.int .i64 n] w fun e w' => e = .returned (.tuple #[.pointer none, .int .i64 1]) ∧ Ext w w' := by
  by_cases h : n < 64
  · go_enter Try.func38, Try.ntmps38
    go_wp2
    exact bodyPost_ret (v := .tuple #[.pointer none, .int .i64 1]) (by simp only [results, Try.results38]; go_simp) rfl ⟨rfl, Ext.refl _⟩
  · have h2 : 8192 < n := by omega
    go_enter Try.func38, Try.ntmps38
    go_wp2
    exact bodyPost_ret (v := .tuple #[.pointer none, .int .i64 1]) (by simp only [results, Try.results38]; go_simp) rfl ⟨rfl, Ext.refl _⟩
end Go.Proofs.Ytobcfocbglkicaa
