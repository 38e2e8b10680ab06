/- A slice of truth values among a law's arguments; bytes of a slice at an index. -/
import Derived.Test.YtobcfocbglkicaaDkM
import Derived.Test.YtobcfocbglkicaaLiftB
import Derived.Deep.Grids
set_option linter.unusedVariables false
set_option maxRecDepth 100000
namespace Go.Proofs.Ytobcfocbglkicaa
open Go.RowKit Go.ChangeShapes Go.WideShapes Go.ChangeAt Go.Deep
section
variable {H : Type} {enc : TypeId × Value → H} {P : Program} {W : World} {base : Nat} {b0 : Nat} {held : Bool}
theorem open_boolsL {t e : TypeId} {v : Value} {d : DataW H} {p : List MemPlace} {r : Reach} (ht : P.underlying t = some (.slice e)) (he : P.underlying e = some .bool) (hc : P.cellsOf e = 1)
    (hv : Value.okWide P W r b0 t v) (h : DataW.Trod enc P W base (fun _ => true) held t v d p) : ∃ l : List Bool, RBo W v l ∧ (∀ b off n c, v = .slice (some ⟨b, off, none⟩) n c → b < W.heap.size) ∧ l.length ≤ maxLen := by
  obtain ⟨a0, len, cap, rfl⟩ := okWide_slice ht hv
  obtain ⟨m, hm⟩ := h
  rcases open_bools ht he hc hm with ⟨h0, _⟩ | ⟨a, len', cap', B, h0, hb, hl, hcap, _, hcell⟩
  · obtain ⟨rfl, rfl, rfl⟩ : a0 = none ∧ len = 0 ∧ cap = 0 := by simpa [Value.cells] using h0
    exact ⟨[], .inl ⟨none, 0, rfl, rfl⟩, by simp, Nat.zero_le _⟩
  · obtain ⟨rfl, rfl, rfl⟩ : a0 = some a ∧ len = len' ∧ cap = cap' := by simpa [Value.cells] using h0
    obtain ⟨hs, hlt⟩ := has_slice ht hv
    obtain ⟨b, off, spot⟩ := a
    simp only at hs
    subst hs
    have hlen : ((List.range len).map B).length = len := by simp
    refine ⟨(List.range len).map B, .inr ⟨b, off, cap, by rw [hlen], hlt, by omega, fun j hj => ?_⟩, (by rintro b' off' n c e; cases e; exact hlt), by omega⟩
    rw [hlen] at hj
    have hc' := hcell j (by omega)
    rw [Addr.add_lit] at hc'
    rw [hc']
    simp
end
/-- A byte of a slice, in a later world. -/
theorem RS.at {W w : World} {v : Value} {l : List UInt8} (h : RS W v l) (k : Ext W w) : ∃ A c, v = .slice A l.length c ∧ ∀ j (hj : j < l.length), ∃ b off, A = some ⟨b, off, none⟩ ∧ l.length ≤ c ∧ b < w.heap.size ∧ w.cell? ⟨b, off + j, none⟩ = some (bv l[j]) := by
  rcases h with ⟨rfl, rfl⟩ | ⟨b, off, c, rfl, hlt, hc, hj⟩
  · exact ⟨none, 0, rfl, fun j hj => absurd hj (by simp)⟩
  · refine ⟨_, c, rfl, fun j hjl => ⟨b, off, rfl, hc, Nat.lt_of_lt_of_le hlt k.size, ?_⟩⟩
    rw [Below.cell (p := ⟨b, off + j, none⟩) k hlt, hj j hjl, bvs_get hjl]

section
variable {W w : World} {loc : List (Nat × Obj)} {ds : List (Nat × DK)} {g : Nat} {D : DK}
theorem read_e (i : Nat) (h : DSt W loc ds w) (hi : ds[i]? = some (g, D)) (z : Int) (b : List UInt8) (e : Int) (he : D.read z = (b, e)) (hwl : D.wt.length ≤ 1000000) :
    Calls Try.prog 31 #[.pointer (some ⟨g, 0, none⟩), .int .i64 z] w fun r w' => r = .returned (.tuple #[.agg (bvs b).toArray, .int .i64 e]) ∧ DSt W loc ds w' ∧ Ext w w' := by
  have h1 : (D.read z).1 = b := by rw [he]
  have h2 : (D.read z).2 = e := by rw [he]
  rw [← h1, ← h2]
  exact read_l i h hi z hwl
end
/-! Steps of a disk at known states. -/
section
variable {n z c : Int} {on wt : List Wr} {keep k2 : List Bool} {b : List UInt8}
theorem DK.write_go (h0 : 0 ≤ z) (h1 : z < n) : DK.write ⟨n, on, wt, 0, keep, false⟩ z b = (⟨n, on, wt ++ [(z, b)], 0, keep, false⟩, 0) := by
  have e : DK.askAt ⟨n, on, wt, 0, keep, false⟩ z = 0 := by simp [DK.askAt, h0, h1]
  simp [DK.write, e, DK.count]
theorem DK.write_more (h0 : 0 ≤ z) (h1 : z < n) (hc : 1 < c) : DK.write ⟨n, on, wt, c, keep, false⟩ z b = (⟨n, on, wt ++ [(z, b)], c - 1, keep, false⟩, 0) := by
  have e : DK.askAt ⟨n, on, wt, c, keep, false⟩ z = 0 := by simp [DK.askAt, h0, h1]
  have e1 : ¬ c = 0 := by omega
  simp [DK.write, e, DK.count, e1, hc]
theorem DK.write_die (h0 : 0 ≤ z) (h1 : z < n) : DK.write ⟨n, on, wt, 1, keep, false⟩ z b = (⟨n, on ++ kept keep (wt ++ [(z, b)]), [], 0, [], true⟩, 51) := by
  have e : DK.askAt ⟨n, on, wt, 1, keep, false⟩ z = 0 := by simp [DK.askAt, h0, h1]
  simp [DK.write, e, DK.count, DK.fail]
theorem DK.flush_go : DK.flush ⟨n, on, wt, 0, keep, false⟩ = (⟨n, on ++ wt, [], 0, keep, false⟩, 0) := by
  simp [DK.flush, DK.ask, DK.count]
theorem DK.flush_more (hc : 1 < c) : DK.flush ⟨n, on, wt, c, keep, false⟩ = (⟨n, on ++ wt, [], c - 1, keep, false⟩, 0) := by
  have e1 : ¬ c = 0 := by omega
  simp [DK.flush, DK.ask, DK.count, e1, hc]
theorem DK.flush_die : DK.flush ⟨n, on, wt, 1, keep, false⟩ = (⟨n, on ++ kept keep wt, [], 0, [], true⟩, 51) := by
  simp [DK.flush, DK.ask, DK.count, DK.fail]
theorem DK.fail_go : DK.Fail ⟨n, on, wt, c, keep, false⟩ k2 = (⟨n, on ++ kept k2 wt, [], 0, [], true⟩, 0) := by
  simp [DK.Fail, DK.ask, DK.fail]
theorem DK.say_go (h : 0 < c) {d : Int} : DK.say ⟨n, on, wt, d, keep, false⟩ c k2 = (⟨n, on, wt, c, k2, false⟩, 0) := by
  have : 0 ≤ c := by omega
  simp [DK.say, DK.ask, h, this]
theorem DK.read_go (h0 : 0 ≤ z) (h1 : z < n) : DK.read ⟨n, on, wt, c, keep, false⟩ z = ((lastB (on ++ wt) z).getD zB, 0) := by
  have e : DK.askAt ⟨n, on, wt, c, keep, false⟩ z = 0 := by simp [DK.askAt, h0, h1]
  simp [DK.read, e, DK.at]
end
theorem blk_keep {V V' : World} {g : Nat} {o : Obj} (k : Ext V V') (h : Hid (V.heap[g]? = some o)) : Hid (V'.heap[g]? = some o) := Lib.hid ((Below.block k g (Array.getElem?_eq_some_iff.1 h.out).1).trans h.out)
theorem kept_nil (l : List Wr) : kept [] l = [] := by simp [kept]
theorem kept_all (n : Nat) (l : List Wr) (h : l.length ≤ n) : kept (List.replicate n true) l = l := by
  unfold kept
  rw [List.filter_eq_self.2, List.zipIdx_map_fst]
  rintro ⟨p, i⟩ hp
  have := (List.mem_zipIdx' hp).1
  simp [List.getD, show i < n by omega]
theorem mkBools (w : World) (n : Nat) (hn : n ≤ 1000000) : (Instr.makeSlice 39 (.int .i64 n) (.int .i64 n)).run Try.prog w = .ok (.slice (some ⟨w.heap.size, 0, none⟩) n n) (w.alloc (.cells (bcs (List.replicate n false)).toArray 4)) := by
  have h : (Try.prog.info? 4).map (fun i => (i.zero, i.size, i.bytes)) = some (some (.bool false), 1, 1) := by kernel_rfl
  obtain ⟨i, hi, hz0, hz1, hz2⟩ := info_prt h
  have := run_make (P := Try.prog) w 39 4 i (.bool false) Try.underlying39 hi hz0 .i64 .i64 (n : Int) (n : Int) (by omega) (by omega) (by rw [hz2]; omega) (by omega)
  rw [this, hz1]
  have e : madeCells (Value.bool false).cells n = (bcs (List.replicate n false)).toArray := by
    apply Array.ext'
    rw [show (Value.bool false).cells = #[.bool false] from rfl, toList_madeCells_one]
    simp [bcs]
  simp only [Int.toNat_natCast, Nat.mul_one, e]
/-- One truth value more is yes. -/
theorem row_true (n j : Nat) (h : j < n) : (bcs (List.replicate j true ++ List.replicate (n - j) false)).toArray.setIfInBounds j (.bool true) = (bcs (List.replicate (j + 1) true ++ List.replicate (n - (j + 1)) false)).toArray := by
  apply Array.ext'
  rw [Array.toList_setIfInBounds]
  simp only [bcs]
  rw [← List.map_set]
  congr 1
  rw [List.set_append_right _ _ (by simp), List.length_replicate, Nat.sub_self, show n - j = (n - (j + 1)) + 1 by omega, List.replicate_succ, List.set_cons_zero, List.replicate_succ', List.append_assoc]
  rfl
theorem mod64 (x : UInt8) : (0 : Int) ≤ (x.toNat : Int) % 64 ∧ (x.toNat : Int) % 64 < 64 := by omega
theorem ofNat_u8 {j : Nat} (h : j ≤ 255) : (j : Int) % 256 = ((UInt8.ofNat j).toNat : Int) := by
  rw [UInt8.toNat_ofNat']
  omega
end Go.Proofs.Ytobcfocbglkicaa
