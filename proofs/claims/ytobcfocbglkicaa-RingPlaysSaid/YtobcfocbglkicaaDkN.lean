/- Read at known states; nobody's disk: what is refused. -/
import Derived.Test.YtobcfocbglkicaaDkM
set_option linter.unusedVariables false
set_option maxRecDepth 100000
namespace Go.Proofs.Ytobcfocbglkicaa
open Go.RowKit

theorem st_blkn (l : List UInt8) (hl : l.length = 512) (w : World) : (Instr.storeAt 25 (.pointer (some ⟨w.heap.size, 0, none⟩)) (.agg (bvs l).toArray)).run Try.prog (w.alloc (.cells (bvs zB).toArray 25)) = .ok () (w.alloc (.cells (bvs l).toArray 25)) := by
  have st := st_blk (l := l) (heap_alloc_last w (.cells (bvs zB).toArray 25)) zB_length hl
  rw [World.setRow_alloc_new] at st
  exact st
section
variable {W w : World} {loc : List (Nat × Obj)} {ds : List (Nat × DK)} {g : Nat} {D : DK}
theorem read_k (i : Nat) (h : DSt W loc ds w) (hi : ds[i]? = some (g, D)) (z : Int) (b : List UInt8) (e : Int) (he : D.read z = (b, e)) (hwl : D.wt.length ≤ 1000000) :
    Calls Try.prog 31 #[.pointer (some ⟨g, 0, none⟩), .int .i64 z] w fun r w' => r = .returned (.tuple #[.agg (bvs b).toArray, .int .i64 e]) ∧ DSt W loc ds w' := by
  have h1 : (D.read z).1 = b := by rw [he]
  have h2 : (D.read z).2 = e := by rw [he]
  rw [← h1, ← h2]
  exact (read_l i h hi z hwl).mono fun r w' ⟨h1, h2, _⟩ => ⟨h1, h2⟩
end
theorem askAt_nil (z : Int) (w : World) : Calls Try.prog 70 #[.pointer none, .int .i64 z] w fun e w' => e = .returned (.int .i64 2) ∧ Below w.heap.size w w' := by
  go_enter Try.func70, Try.ntmps70
  go_wp2_with (go_at_call 66; refine (ask_nil _).mono ?_; rintro e w1 ⟨rfl, hb1⟩; have hz1 := hb1.size; (try simp only [World.size_alloc] at hz1))
  go_ret
  exact ⟨rfl, by (repeat' (first | (with_reducible assumption) | (with_reducible exact Below.refl _ _) | (with_reducible refine below_sc ?_ ?_) | ((with_reducible show (_ : Nat) ≤ _); omega) | refine Below.setCell ?_ (by first | omega | (simp; done) | (simp; omega)) _ | refine Below.alloc ?_ (by first | omega | (simp; done) | (simp; omega)) _ | refine Below.drew ?_ | refine below_drewN ?_ _ | refine Below.trans ?_ (Below.mono (by assumption) (by first | omega | (simp; done) | (simp; omega)))))⟩
set_option maxHeartbeats 2000000 in
theorem read_nil (z : Int) (w : World) : Calls Try.prog 31 #[.pointer none, .int .i64 z] w fun e w' => e = .returned (.tuple #[.agg (bvs zB).toArray, .int .i64 2]) ∧ Below w.heap.size w w' := by
  go_enter Try.func31, Try.ntmps31
  go_wp2_with (refine wpList_al rfl 25 rfl alloc_blk ?_; simp only [Act.put])
  refine (askAt_nil z _).mono ?_
  rintro e w1 ⟨rfl, hb1⟩; have hz1 := hb1.size; (try simp only [World.size_alloc] at hz1)
  have hbx := (hb1.block w.heap.size (by simp)).trans (heap_alloc_last w (.cells (bvs zB).toArray 25))
  have X1 := Lib.hid (Ext.trans (extAl w (.cells (bvs zB).toArray 25)) hb1)
  have DSt := Lib.hid (st_blk (l := zB) hbx zB_length zB_length)
  have Hres := Lib.hid (setRow_heap _ _ _ (bvs zB).toArray _ _ hbx)
  have Fin := Lib.hid (below_setRow X1.out (Nat.le_refl _) (bvs zB).toArray)
  clear hb1 hz1 hbx
  go_wp2_with (first | (refine wpList_bd rfl 25 rfl build_blk ?_; simp only [Act.put]) | (refine wpList_st rfl 25 (.tmp 4) (.tmp 14) rfl DSt.out ?_; simp only [Act.put]))
  exact bodyPost_ret (results_cell_tmp Try.results31 _ _ _ _ _ _ _ rfl Hres.out Try.underlying25 rfl (by rw [info_blk, bvs_size, zB_length])) rfl ⟨rfl, Fin.out⟩
theorem write_nil (z : Int) {b : List UInt8} (hb : b.length = 512) (w : World) : Calls Try.prog 26 #[.pointer none, .int .i64 z, .agg (bvs b).toArray] w fun e w' => e = .returned (.int .i64 2) ∧ Below w.heap.size w w' := by
  have h1 := heap_alloc_last w (.cells (bvs b).toArray 25)
  have X := Lib.hid (extAl w (.cells (bvs b).toArray 25))
  have ST := Lib.hid (st_blkn b hb w)
  go_enter Try.func26, Try.ntmps26
  go_wp2_with (first | (refine wpList_al rfl 25 rfl alloc_blk ?_; simp only [Act.put]) | (refine wpList_st rfl 25 _ _ rfl ST.out ?_; simp only [Act.put]) | (go_at_call 70; refine (askAt_nil z _).mono ?_; rintro e w1 ⟨rfl, hb1⟩; have hz1 := hb1.size; (try simp only [World.size_alloc] at hz1)))
  go_ret
  exact ⟨rfl, by first | exact Below.trans X.out (Below.mono hb1 X.out.size) | (repeat' (first | (with_reducible assumption) | (with_reducible exact Below.refl _ _) | (with_reducible refine below_sc ?_ ?_) | ((with_reducible show (_ : Nat) ≤ _); omega) | refine Below.setCell ?_ (by first | omega | (simp; done) | (simp; omega)) _ | refine Below.alloc ?_ (by first | omega | (simp; done) | (simp; omega)) _ | refine Below.drew ?_ | refine below_drewN ?_ _ | refine Below.trans ?_ (Below.mono (by assumption) (by first | omega | (simp; done) | (simp; omega)))))⟩
theorem flush_nil  (w : World) : Calls Try.prog 25 #[.pointer none] w fun e w' => e = .returned (.int .i64 2) ∧ Below w.heap.size w w' := by
  go_enter Try.func25, Try.ntmps25
  go_wp2_with (go_at_call 66; refine (ask_nil _).mono ?_; rintro e w1 ⟨rfl, hb1⟩; have hz1 := hb1.size; (try simp only [World.size_alloc] at hz1))
  go_ret
  exact ⟨rfl, by (repeat' (first | (with_reducible assumption) | (with_reducible exact Below.refl _ _) | (with_reducible refine below_sc ?_ ?_) | ((with_reducible show (_ : Nat) ≤ _); omega) | refine Below.setCell ?_ (by first | omega | (simp; done) | (simp; omega)) _ | refine Below.alloc ?_ (by first | omega | (simp; done) | (simp; omega)) _ | refine Below.drew ?_ | refine below_drewN ?_ _ | refine Below.trans ?_ (Below.mono (by assumption) (by first | omega | (simp; done) | (simp; omega)))))⟩
theorem cut_nil (n : Int) (v : Value) (w : World) : Calls Try.prog 24 #[.pointer none, .int .i64 n, v] w fun e w' => e = .returned (.int .i64 2) ∧ Below w.heap.size w w' := by
  go_enter Try.func24, Try.ntmps24
  go_wp2_with (go_at_call 66; refine (ask_nil _).mono ?_; rintro e w1 ⟨rfl, hb1⟩; have hz1 := hb1.size; (try simp only [World.size_alloc] at hz1))
  go_ret
  exact ⟨rfl, by (repeat' (first | (with_reducible assumption) | (with_reducible exact Below.refl _ _) | (with_reducible refine below_sc ?_ ?_) | ((with_reducible show (_ : Nat) ≤ _); omega) | refine Below.setCell ?_ (by first | omega | (simp; done) | (simp; omega)) _ | refine Below.alloc ?_ (by first | omega | (simp; done) | (simp; omega)) _ | refine Below.drew ?_ | refine below_drewN ?_ _ | refine Below.trans ?_ (Below.mono (by assumption) (by first | omega | (simp; done) | (simp; omega)))))⟩
theorem fail_nil (v : Value) (w : World) : Calls Try.prog 28 #[.pointer none, v] w fun e w' => e = .returned (.int .i64 2) ∧ Below w.heap.size w w' := by
  go_enter Try.func28, Try.ntmps28
  go_wp2_with (go_at_call 66; refine (ask_nil _).mono ?_; rintro e w1 ⟨rfl, hb1⟩; have hz1 := hb1.size; (try simp only [World.size_alloc] at hz1))
  go_ret
  exact ⟨rfl, by (repeat' (first | (with_reducible assumption) | (with_reducible exact Below.refl _ _) | (with_reducible refine below_sc ?_ ?_) | ((with_reducible show (_ : Nat) ≤ _); omega) | refine Below.setCell ?_ (by first | omega | (simp; done) | (simp; omega)) _ | refine Below.alloc ?_ (by first | omega | (simp; done) | (simp; omega)) _ | refine Below.drew ?_ | refine below_drewN ?_ _ | refine Below.trans ?_ (Below.mono (by assumption) (by first | omega | (simp; done) | (simp; omega)))))⟩
theorem boot_nil (w : World) : Calls Try.prog 35 #[.pointer none] w fun e w' => e = .returned (.tuple #[.pointer none, .int .i64 2]) ∧ Below w.heap.size w w' := by
  go_enter Try.func35, Try.ntmps35
  go_wp2
  exact bodyPost_ret (v := .tuple #[.pointer none, .int .i64 2]) (by simp only [results, Try.results35]; go_simp) rfl ⟨rfl, by (repeat' (first | (with_reducible assumption) | (with_reducible exact Below.refl _ _) | (with_reducible refine below_sc ?_ ?_) | ((with_reducible show (_ : Nat) ≤ _); omega) | refine Below.setCell ?_ (by first | omega | (simp; done) | (simp; omega)) _ | refine Below.alloc ?_ (by first | omega | (simp; done) | (simp; omega)) _ | refine Below.drew ?_ | refine below_drewN ?_ _ | refine Below.trans ?_ (Below.mono (by assumption) (by first | omega | (simp; done) | (simp; omega)))))⟩
end Go.Proofs.Ytobcfocbglkicaa
