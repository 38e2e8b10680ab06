/- Walks of disk: Read. -/
import Derived.Test.YtobcfocbglkicaaDkG
set_option linter.unusedVariables false
set_option maxRecDepth 100000
namespace Go.Proofs.Ytobcfocbglkicaa
open Go.RowKit

theorem lastB_512 {n : Int} {l : List Wr} (h : ∀ p ∈ l, 0 ≤ p.1 ∧ p.1 < n ∧ p.2.length = 512) {z : Int} {b : List UInt8} (k : lastB l z = some b) : b.length = 512 := (h _ (lastB_mem k)).2.2
theorem DK.Ok.at {D : DK} (h : D.Ok) (z : Int) : (D.at z).length = 512 := by
  unfold DK.at
  cases k : lastB (D.on ++ D.wt) z with
  | none => exact zB_length
  | some b =>
    exact lastB_512 (n := D.n) (fun p hp => by
      rcases List.mem_append.1 hp with hp | hp
      · exact h.on p hp
      · exact h.wt p hp) k
/-- Block of element i of a row of writes. -/
theorem ld_wrf {w : World} {B g c i : Nat} {l : List Wr} {z : Int} {b : List UInt8} (h : OwnR w B 107 513 One (.slice (some ⟨g, 0, none⟩) l.length c) l.length (wcs l)) (hl : ∀ q ∈ l, q.2.length = 512) (hi : l[i]? = some (z, b)) :
    (Instr.loadAt 25 (.pointer (some ⟨g, i * 513 + 1, none⟩))).run Try.prog w = .ok (bval b) w := by
  have hil := (List.getElem?_eq_some_iff.1 hi).1
  have hp := hl _ (List.mem_of_getElem? hi)
  obtain ⟨g', hA, _, _, _, hc⟩ := h.cells (by omega)
  simp only [Option.some.injEq, Addr.mk.injEq, and_true] at hA
  subst hA
  refine loadAt_bk hp fun j hj => ?_
  have hj' : j + 1 < 513 := by simp only at hp; omega
  have hg := wcs_get l hl hi hj'
  have e : (wcell (z, b))[j + 1]? = some (bv b[j]) := by simp [wcell, bvs, hj]
  rw [e] at hg
  obtain ⟨hlt, hg⟩ := List.getElem?_eq_some_iff.1 hg
  rw [show i * 513 + 1 + j = i * 513 + (j + 1) by omega, hc _ hlt, hg]
theorem zero_int (w : World) : (zeroValue 3).run Try.prog w = .ok (.int .i64 0) w := by kernel_rfl
theorem zero_blk (w : World) : (zeroValue 25).run Try.prog w = .ok (bval zB) w := by kernel_rfl

set_option maxHeartbeats 2000000 in
theorem Read_any {S : Nat → Prop} {g : Nat} {D : DK} (z : Int) (w : World) (h : DkAt w S g D) (hwl : D.wt.length ≤ 1000000) :
    Calls Try.prog 31 #[.pointer (some ⟨g, 0, none⟩), .int .i64 z] w fun e w' => e = .returned (.tuple #[bval (D.read z).1, .int .i64 (D.read z).2]) ∧ Below w.heap.size w w' := by
  rcases askAt_cases D z with ⟨he, -, hz0, hz1⟩ | he | he
  case inr.inl =>
    rw [show D.read z = (zB, 1) by unfold DK.read; rw [if_neg (by omega), he]]
    go_enter Try.func31, Try.ntmps31
    go_wp2_with (refine wpList_al rfl 25 rfl alloc_blk ?_; simp only [Act.put])
    refine (askAt_any z _ (h.ext (extAl w _))).mono ?_
    rw [he]
    rintro e w1 ⟨rfl, hb1⟩; have hz1 := hb1.size; (try simp only [World.size_alloc] at hz1)
    have hbx := (hb1.block w.heap.size (by simp)).trans (heap_alloc_last w (.cells (bvs zB).toArray 25))
    have X1 := Lib.hid (Ext.trans (extAl w (.cells (bvs zB).toArray 25)) hb1)
    have St := Lib.hid (st_blk (l := zB) hbx zB_length zB_length)
    have Hres := Lib.hid (setRow_heap _ _ _ (bvs zB).toArray _ _ hbx)
    have Fin := Lib.hid (below_setRow X1.out (Nat.le_refl _) (bvs zB).toArray)
    clear hb1 hz1 hbx he
    clear h
    go_wp2_with (first | (refine wpList_bd rfl 25 rfl build_blk ?_; simp only [Act.put]) | (refine wpList_st rfl 25 (.tmp 4) (.tmp 14) rfl St.out ?_; simp only [Act.put]))
    exact bodyPost_ret (results_cell_tmp Try.results31 _ _ _ _ _ _ _ rfl Hres.out Try.underlying25 rfl (by rw [info_blk, bvs_size, zB_length])) rfl ⟨rfl, Fin.out⟩
  case inr.inr =>
    rw [show D.read z = (zB, 51) by unfold DK.read; rw [if_neg (by omega), he]]
    go_enter Try.func31, Try.ntmps31
    go_wp2_with (refine wpList_al rfl 25 rfl alloc_blk ?_; simp only [Act.put])
    refine (askAt_any z _ (h.ext (extAl w _))).mono ?_
    rw [he]
    rintro e w1 ⟨rfl, hb1⟩; have hz1 := hb1.size; (try simp only [World.size_alloc] at hz1)
    have hbx := (hb1.block w.heap.size (by simp)).trans (heap_alloc_last w (.cells (bvs zB).toArray 25))
    have X1 := Lib.hid (Ext.trans (extAl w (.cells (bvs zB).toArray 25)) hb1)
    have St := Lib.hid (st_blk (l := zB) hbx zB_length zB_length)
    have Hres := Lib.hid (setRow_heap _ _ _ (bvs zB).toArray _ _ hbx)
    have Fin := Lib.hid (below_setRow X1.out (Nat.le_refl _) (bvs zB).toArray)
    clear hb1 hz1 hbx he
    clear h
    go_wp2_with (first | (refine wpList_bd rfl 25 rfl build_blk ?_; simp only [Act.put]) | (refine wpList_st rfl 25 (.tmp 4) (.tmp 14) rfl St.out ?_; simp only [Act.put]))
    exact bodyPost_ret (results_cell_tmp Try.results31 _ _ _ _ _ _ _ rfl Hres.out Try.underlying25 rfl (by rw [info_blk, bvs_size, zB_length])) rfl ⟨rfl, Fin.out⟩
  rw [show D.read z = (D.at z, 0) by unfold DK.read; rw [if_pos he]]
  have hok : D.Ok := by obtain ⟨_, _, _, _, h⟩ := h; exact h.ok
  have n1 := hok.n1
  have hat := hok.at z
  have hwf := wf_i64 (a := z) (by omega) (by omega)
  have hD : D.at z = ((lastB D.wt z).or (lastB D.on z)).getD zB := by unfold DK.at; rw [lastB_append]
  rcases lastIx_spec z D.wt with ⟨hi, hb⟩ | ⟨i, b, hi, hget, hb⟩
  · rw [hb, Option.none_or] at hD
    obtain ⟨X, hX⟩ : ∃ X, X = D.at z := ⟨_, rfl⟩
    rw [← hX] at hat hD ⊢
    clear hX
    go_enter Try.func31, Try.ntmps31
    go_wp2_with (refine wpList_al rfl 25 rfl alloc_blk ?_; simp only [Act.put])
    refine (askAt_any z _ (h.ext (extAl w _))).mono ?_
    rw [he]
    rintro e w1 ⟨rfl, hb1⟩; have hz1 := hb1.size; (try simp only [World.size_alloc] at hz1)
    have hbx := (hb1.block w.heap.size (by simp)).trans (heap_alloc_last w (.cells (bvs zB).toArray 25))
    have X1 := Lib.hid (Ext.trans (extAl w (.cells (bvs zB).toArray 25)) hb1)
    have St := Lib.hid (st_blk (l := X) hbx zB_length hat)
    have Hres := Lib.hid (setRow_heap _ _ _ (bvs X).toArray _ _ hbx)
    have Fin := Lib.hid (below_setRow X1.out (Nat.le_refl _) (bvs X).toArray)
    clear hb1 hz1 hbx he
    obtain ⟨mo, mn, sv, kv, h⟩ := h.ext X1.out
    obtain ⟨c0, c1, c2, c3, c4, c5, c6, fz, hlt⟩ := blk7 h.hg
    have L1 := h.nw.look (P := Try.prog) true (t := 102) Try.underlying102 Try.underlying3 (zero_int w1) hwf
    have L2 := h.on.look (P := Try.prog) false (t := 100) Try.underlying100 Try.underlying3 (zero_blk w1) hwf
    have e1 : ixV D.wt z = none := by unfold ixV; rw [hi]; rfl
    have e2 : (((lastB D.on z).map bval).getD (bval zB)) = .agg (bvs X).toArray := by rw [hD]; cases lastB D.on z <;> rfl
    simp only [e1, if_true, Option.getD_none, Option.isSome_none] at L1
    simp only [e2, Bool.false_eq_true, if_false] at L2
    have H1 := Lib.hid L1
    have H2 := Lib.hid L2
    clear L1 L2 h c0 c2 c4 c5 c6 e1 e2 hD
    go_wp2_with (first | (refine wpList_lk rfl 102 (.tmp 20) (.tmp 21) true rfl H1.out ?_; simp only [Act.put]) | (refine wpList_lk rfl 100 (.tmp 37) (.tmp 38) false rfl H2.out ?_; simp only [Act.put]) | (refine wpList_st rfl 25 (.tmp 4) (.tmp 39) rfl St.out ?_; simp only [Act.put]))
    exact bodyPost_ret (results_cell_tmp Try.results31 _ _ _ _ _ _ _ rfl Hres.out Try.underlying25 rfl (by rw [info_blk, bvs_size, hat])) rfl ⟨rfl, Fin.out⟩
  · rw [hb, Option.some_or, Option.getD_some] at hD
    rw [hD] at hat ⊢
    have hil := (List.getElem?_eq_some_iff.1 hget).1
    go_enter Try.func31, Try.ntmps31
    go_wp2_with (refine wpList_al rfl 25 rfl alloc_blk ?_; simp only [Act.put])
    refine (askAt_any z _ (h.ext (extAl w _))).mono ?_
    rw [he]
    rintro e w1 ⟨rfl, hb1⟩; have hz1 := hb1.size; (try simp only [World.size_alloc] at hz1)
    have hbx := (hb1.block w.heap.size (by simp)).trans (heap_alloc_last w (.cells (bvs zB).toArray 25))
    have X1 := Lib.hid (Ext.trans (extAl w (.cells (bvs zB).toArray 25)) hb1)
    have St := Lib.hid (st_blk (l := b) hbx zB_length hat)
    have Hres := Lib.hid (setRow_heap _ _ _ (bvs b).toArray _ _ hbx)
    have Fin := Lib.hid (below_setRow X1.out (Nat.le_refl _) (bvs b).toArray)
    clear hb1 hz1 hbx he
    obtain ⟨mo, mn, sv, kv, h⟩ := h.ext X1.out
    obtain ⟨A, c, rfl⟩ := h.wt.form
    obtain ⟨gs, rfl, -, hgs, hcc, -⟩ := h.wt.cells (by omega)
    have hcc := hcc (by omega)
    obtain ⟨c0, c1, c2, c3, c4, c5, c6, fz, hlt⟩ := blk7 h.hg
    have L1 := h.nw.look (P := Try.prog) true (t := 102) Try.underlying102 Try.underlying3 (zero_int w1) hwf
    have H2 := Lib.hid (ld_wrf h.wt (fun q hq => (hok.wt q hq).2.2) hget)
    have e1 : ixV D.wt z = some (.int .i64 i) := by unfold ixV; rw [hi]; rfl
    simp only [e1, if_true, Option.getD_some, Option.isSome_some] at L1
    have H1 := Lib.hid L1
    clear L1 h c0 c1 c4 c5 c6 e1 hD
    go_wp2_with (first | (refine wpList_lk rfl 102 (.tmp 20) (.tmp 21) true rfl H1.out ?_; simp only [Act.put]) | (refine wpList_ld rfl 25 (.tmp 32) rfl H2.out ?_; simp only [Act.put]) | (refine wpList_st rfl 25 (.tmp 4) (.tmp 33) rfl St.out ?_; simp only [Act.put]))
    exact bodyPost_ret (results_cell_tmp Try.results31 _ _ _ _ _ _ _ rfl Hres.out Try.underlying25 rfl (by rw [info_blk, bvs_size, hat])) rfl ⟨rfl, Fin.out⟩
end Go.Proofs.Ytobcfocbglkicaa
