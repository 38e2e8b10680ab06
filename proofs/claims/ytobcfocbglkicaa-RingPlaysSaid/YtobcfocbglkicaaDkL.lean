/- Walks of jettylaw07's own: block, is, booted. -/
import Derived.Test.YtobcfocbglkicaaDkK
set_option linter.unusedVariables false
set_option maxRecDepth 100000
namespace Go.Proofs.Ytobcfocbglkicaa
open Go.RowKit
attribute [local go_sem ↓] eql_blk neq_blk

theorem wpList_ldg {P : Program} {ops : Array Oper} {rest : List Oper} {o : Oper} {a : Act} {w : World} {Q : Exit → Act → World → Prop} (ty : TypeId) (x : Operand) (ho : o.op = .load ty x) (hg : Region.wanted o (yielded ops a.tmps) = true) {v : Value} (hr : (Instr.loadAt ty (a.eval x)).run P w = .ok v w)
    (h : wpList P ops Q rest (a.put o.dst v) w) : wpList P ops Q (o :: rest) a w := by
  unfold wpList
  rw [if_pos hg]
  refine .inl ?_
  unfold Oper.wp execOp
  simp only [ho, Sem.run_bind, hr, Result.andThen_ok, Sem.run_pure]
  exact h
/-- The block of a byte. -/
def blkC (c : UInt8) : List UInt8 := ((zB.set 0 c).set 200 (c + 1)).set 511 (c + 2)
theorem blkC_length (c : UInt8) : (blkC c).length = 512 := by simp [blkC, zB]
def blk0 (c : UInt8) : List UInt8 := if c = 0 then zB else blkC c
theorem blk0_length (c : UInt8) : (blk0 c).length = 512 := by
  unfold blk0
  split
  · exact zB_length
  · exact blkC_length c
theorem blk0_ne {c : UInt8} (h : c ≠ 0) : blk0 c = blkC c := if_neg h
/-- One byte of a block is written. -/
theorem wpList_stb {P : Program} {ops : Array Oper} {rest : List Oper} {o : Oper} {a : Act} {w : World} {Q : Exit → Act → World → Prop} (hgd : o.guard = none) (x y : Operand) (ty : TypeId) (ho : o.op = .store ty x y) (hr : ∃ w', (Instr.storeAt ty (a.eval x) (a.eval y)).run P w = .ok () w' ∧ wpList P ops Q rest (a.put o.dst undef) w') : wpList P ops Q (o :: rest) a w := by
  obtain ⟨w', h1, h2⟩ := hr
  exact wpList_st hgd ty x y ho h1 h2
theorem u8_add (c : UInt8) (k : UInt8) : ((c.toNat : Int) + (k.toNat : Int)) % 256 = ((c + k).toNat : Int) := by
  rw [UInt8.toNat_add]
  simp
theorem setCell_row {w : World} {g i : Nat} {T : TypeId} {l : List UInt8} (h : w.heap[g]? = some (.cells (bvs l).toArray T (0, 0))) (b : UInt8) : w.setCell ⟨g, i, none⟩ (bv b) = w.setRow g (bvs (l.set i b)).toArray := by
  rw [setCell_eq_setRow _ g i _ _ (0, 0) _ h]
  congr 1
  rw [← bvs_set]
  simp
set_option maxHeartbeats 4000000 in
theorem block_any (c : UInt8) (n : Int) (hn : n = c.toNat) (w : World) :
    Calls Try.prog 27 #[.int .u8 n] w fun e w' => e = .returned (.agg (bvs (blkC c)).toArray) ∧ Ext w w' := by
  subst hn
  have hc := c.toNat_lt
  have X0 : Ext w ((w.alloc (.cells (bvs zB).toArray 25)).alloc (.cells (bvs zB).toArray 25)) := Ext.trans (extAl _ _) (extAl _ _)
  have h1 := heap_alloc2_old w (.cells (bvs zB).toArray 25) (.cells (bvs zB).toArray 25)
  have h2 := heap_alloc2_new w (.cells (bvs zB).toArray 25) (.cells (bvs zB).toArray 25)
  go_enter Try.func27, Try.ntmps27
  go_upto_region 2 with (refine wpList_al rfl 25 rfl alloc_blk ?_; simp only [Act.put])
  try simp only [List.setIfInBounds_toArray, List.set_cons_zero, List.set_cons_succ, World.size_alloc]
  generalize (w.alloc (.cells (bvs zB).toArray 25)).alloc (.cells (bvs zB).toArray 25) = V at *
  have hgl : w.heap.size + 1 < V.heap.size := (Array.getElem?_eq_some_iff.1 h2).1
  have c0 : V.cell? ⟨w.heap.size + 1, 0, none⟩ = some (bv 0) := by simp [World.cell?, h2, bvs, zB]
  have c1 : V.cell? ⟨w.heap.size + 1, 200, none⟩ = some (bv 0) := by simp [World.cell?, h2, bvs, zB]
  have c2 : V.cell? ⟨w.heap.size + 1, 511, none⟩ = some (bv 0) := by simp [World.cell?, h2, bvs, zB]
  have fz : ∀ o, V.frozen? ⟨w.heap.size + 1, o, none⟩ = false := fun o => by simp [World.frozen?, h2]
  have H1 := Lib.hid h1
  have H2 := Lib.hid h2
  have X1 := Lib.hid X0
  clear h1 h2 X0
  go_upto_region 3 with fail
  have hset : (((V.setCell ⟨w.heap.size + 1, 0, none⟩ (bv c)).setCell ⟨w.heap.size + 1, 200, none⟩ (bv (c + 1))).setCell ⟨w.heap.size + 1, 511, none⟩ (bv (c + 2))) = V.setRow (w.heap.size + 1) (bvs (blkC c)).toArray := by
    rw [setCell_row H2.out, setCell_row (setRow_heap _ _ _ _ _ _ H2.out), setRow_setRow, setCell_row (setRow_heap _ _ _ _ _ _ H2.out), setRow_setRow]
    rfl
  have e1 : ((c.toNat : Int) + 1) % 256 = ((c + 1).toNat : Int) := u8_add c 1
  have e2 : ((c.toNat : Int) + 2) % 256 = ((c + 2).toNat : Int) := u8_add c 2
  rw [e1, e2]
  have Y := Lib.hid (below_setRow X1.out (Nat.le_succ w.heap.size) (bvs (blkC c)).toArray)
  unfold bv at hset
  rw [hset]
  have LD := Lib.hid (ld_blk (setRow_heap _ _ _ (bvs (blkC c)).toArray _ _ H2.out) (blkC_length c))
  have k1 : (V.setRow (w.heap.size + 1) (bvs (blkC c)).toArray).heap[w.heap.size]? = some (.cells (bvs zB).toArray 25 (0, 0)) := (setRow_other _ _ _ _ (by omega)).trans H1.out
  have ST := Lib.hid (st_blk (l := blkC c) k1 zB_length (blkC_length c))
  have K1 := Lib.hid (setRow_heap _ _ _ (bvs (blkC c)).toArray _ _ k1)
  have Z := Lib.hid (below_setRow Y.out (Nat.le_refl _) (bvs (blkC c)).toArray)
  clear hset e1 e2 k1 c0 c1 c2 fz H1 H2 X1 Y
  generalize V.setRow (w.heap.size + 1) (bvs (blkC c)).toArray = V2 at *
  go_wp2_with (first | (refine wpList_ld rfl 25 (.tmp 3) rfl LD.out ?_; simp only [Act.put]) | (refine wpList_st rfl 25 (.tmp 2) (.tmp 12) rfl ST.out ?_; simp only [Act.put]))
  exact bodyPost_ret (results_cell_row Try.results27 _ _ _ _ _ _ _ rfl K1.out Try.underlying25 rfl (by rw [info_blk, bvs_size, blkC_length])) rfl ⟨rfl, Z.out⟩

/-- What 'is' says. -/
def isV (D : DK) (z : Int) (c : UInt8) : Bool := decide ((D.read z).2 = 0) && eqB (D.read z).1 (blk0 c)
theorem DK.Ok.read {D : DK} (h : D.Ok) (z : Int) : (D.read z).1.length = 512 ∧ ((D.read z).2 = 0 ∨ (D.read z).2 = 1 ∨ (D.read z).2 = 51) := by
  unfold DK.read
  rcases askAt_cases D z with ⟨he, _⟩ | he | he
  · rw [if_pos he]; exact ⟨h.at z, .inl rfl⟩
  · rw [if_neg (by omega), he]; exact ⟨zB_length, .inr (.inl rfl)⟩
  · rw [if_neg (by omega), he]; exact ⟨zB_length, .inr (.inr rfl)⟩
section
variable {W w : World} {loc : List (Nat × Obj)} {ds : List (Nat × DK)} {g : Nat} {D : DK}
set_option maxHeartbeats 16000000 in
theorem is_l (i : Nat) (h : DSt W loc ds w) (hi : ds[i]? = some (g, D)) (z : Int) (c : UInt8) (n : Int) (hn : n = c.toNat) (hwl : D.wt.length ≤ 1000000) :
    Calls Try.prog 34 #[.pointer (some ⟨g, 0, none⟩), .int .i64 z, .int .u8 n] w fun e w' => e = .returned (.bool (isV D z c)) ∧ DSt W loc ds w' ∧ Ext w w' := by
  subst hn
  have hok := h.ok hi
  obtain ⟨lb, hE⟩ := hok.read z
  have rd := read_l i h hi z hwl
  obtain ⟨R, hR⟩ : ∃ R, R = D.read z := ⟨_, rfl⟩
  have hv : isV D z c = (decide (R.2 = 0) && eqB R.1 (blk0 c)) := by rw [hR]; rfl
  rw [← hR] at lb hE rd
  rw [hv]
  clear hv hR
  obtain ⟨b, e⟩ := R
  simp only [bval] at lb hE rd ⊢
  have RD := Lib.hid rd
  clear rd
  by_cases hc : c = 0
  · subst hc
    rcases hE with rfl | hE
    · skip
      have lz : zB.length = 512 := zB_length
      rw [show blk0 0 = zB from rfl]
      go_enter Try.func34, Try.ntmps34
      go_wp2_with fail
      refine RD.out.mono ?_
      rintro e w1 ⟨rfl, h1, k1⟩
      have st := st_blk (l := b) (heap_alloc_last w1 (.cells (bvs zB).toArray 25)) zB_length lb
      rw [World.setRow_alloc_new] at st
      have DSt := Lib.hid st
      have X1 := Lib.hid (Ext.trans k1 (extAl w1 (.cells (bvs b).toArray 25)))
      have B1 := Lib.hid (heap_alloc_last w1 (.cells (bvs b).toArray 25))
      clear st k1 h1
      go_upto_region 2 with (first | (refine wpList_al rfl 25 rfl alloc_blk ?_; simp only [Act.put]) | (refine wpList_st rfl 25 (.tmp 7) (.tmp 14) rfl DSt.out ?_; simp only [Act.put]))
      try simp only [List.setIfInBounds_toArray, List.set_cons_zero, List.set_cons_succ]
      generalize w1.alloc (.cells (bvs b).toArray 25) = V1 at *
      generalize w1.heap.size = g7 at *
      clear DSt
      go_wp2_with fail
      refine (block_any (0) _ (by rfl) _).mono ?_
      rintro e w2 ⟨rfl, k2⟩
      have st := st_blk (l := blkC (0)) (heap_alloc_last w2 (.cells (bvs zB).toArray 25)) zB_length (blkC_length (0))
      rw [World.setRow_alloc_new] at st
      have DSt := Lib.hid st
      have X2 := Lib.hid (Ext.trans X1.out (Ext.trans k2 (extAl w2 (.cells (bvs (blkC (0))).toArray 25))))
      have B2 := Lib.hid (heap_alloc_last w2 (.cells (bvs (blkC (0))).toArray 25))
      have B1' := Lib.hid ((Below.block (Ext.trans k2 (extAl w2 (.cells (bvs (blkC (0))).toArray 25))) g7 (Array.getElem?_eq_some_iff.1 B1.out).1).trans B1.out)
      have g79 : g7 ≠ w2.heap.size := fun e => by
        have := (Array.getElem?_eq_some_iff.1 B1.out).1
        have := Below.size k2
        omega
      have X3 : w.heap.size ≤ w2.heap.size := by
        have h1 := X1.out.size
        have h2 := Below.size k2
        omega
      clear st k2 X1 B1
      go_upto_region 3 with (first | (refine wpList_al rfl 25 rfl alloc_blk ?_; simp only [Act.put]) | (refine wpList_st rfl 25 (.tmp 9) (.tmp 17) rfl DSt.out ?_; simp only [Act.put]))
      try simp only [List.setIfInBounds_toArray, List.set_cons_zero, List.set_cons_succ]
      generalize w2.alloc (.cells (bvs (blkC (0))).toArray 25) = V2 at *
      generalize w2.heap.size = g9 at *
      clear DSt
      have DSt := Lib.hid (st_blk (l := zB) B2.out (blkC_length 0) zB_length)
      have X5 := Lib.hid (below_setRow X2.out X3 (bvs zB).toArray)
      have L7 := Lib.hid (ld_blk ((setRow_other V2 g9 g7 (bvs zB).toArray g79).trans B1'.out) lb)
      have L9 := Lib.hid (ld_blk (setRow_heap _ _ _ (bvs zB).toArray _ _ B2.out) zB_length)
      clear X2 B1' B2
      go_upto_region 5 with (first | (refine wpList_bd rfl 25 rfl build_blk ?_; simp only [Act.put]) | (refine wpList_st rfl 25 (.tmp 9) (.tmp 20) rfl DSt.out ?_; simp only [Act.put]))
      generalize V2.setRow g9 (bvs zB).toArray = V3 at *
      clear DSt
      go_wp2_with (first | (refine wpList_ldg 25 (.tmp 7) rfl (by rfl) L7.out ?_; simp only [Act.put]) | (refine wpList_ldg 25 (.tmp 9) rfl (by rfl) L9.out ?_; simp only [Act.put]))
      go_ret
      refine ⟨by simp, h.ext X5.out, X5.out⟩
    · have he : ¬ e = 0 := by omega
      have hf : decide (e = 0) = false := by simp [he]
      rw [hf]
      clear hE hf
      have lz : zB.length = 512 := zB_length
      rw [show blk0 0 = zB from rfl]
      go_enter Try.func34, Try.ntmps34
      go_wp2_with fail
      refine RD.out.mono ?_
      rintro e w1 ⟨rfl, h1, k1⟩
      have st := st_blk (l := b) (heap_alloc_last w1 (.cells (bvs zB).toArray 25)) zB_length lb
      rw [World.setRow_alloc_new] at st
      have DSt := Lib.hid st
      have X1 := Lib.hid (Ext.trans k1 (extAl w1 (.cells (bvs b).toArray 25)))
      have B1 := Lib.hid (heap_alloc_last w1 (.cells (bvs b).toArray 25))
      clear st k1 h1
      go_upto_region 2 with (first | (refine wpList_al rfl 25 rfl alloc_blk ?_; simp only [Act.put]) | (refine wpList_st rfl 25 (.tmp 7) (.tmp 14) rfl DSt.out ?_; simp only [Act.put]))
      try simp only [List.setIfInBounds_toArray, List.set_cons_zero, List.set_cons_succ]
      generalize w1.alloc (.cells (bvs b).toArray 25) = V1 at *
      generalize w1.heap.size = g7 at *
      clear DSt
      go_wp2_with fail
      refine (block_any (0) _ (by rfl) _).mono ?_
      rintro e w2 ⟨rfl, k2⟩
      have st := st_blk (l := blkC (0)) (heap_alloc_last w2 (.cells (bvs zB).toArray 25)) zB_length (blkC_length (0))
      rw [World.setRow_alloc_new] at st
      have DSt := Lib.hid st
      have X2 := Lib.hid (Ext.trans X1.out (Ext.trans k2 (extAl w2 (.cells (bvs (blkC (0))).toArray 25))))
      have B2 := Lib.hid (heap_alloc_last w2 (.cells (bvs (blkC (0))).toArray 25))
      have B1' := Lib.hid ((Below.block (Ext.trans k2 (extAl w2 (.cells (bvs (blkC (0))).toArray 25))) g7 (Array.getElem?_eq_some_iff.1 B1.out).1).trans B1.out)
      have g79 : g7 ≠ w2.heap.size := fun e => by
        have := (Array.getElem?_eq_some_iff.1 B1.out).1
        have := Below.size k2
        omega
      have X3 : w.heap.size ≤ w2.heap.size := by
        have h1 := X1.out.size
        have h2 := Below.size k2
        omega
      clear st k2 X1 B1
      go_upto_region 3 with (first | (refine wpList_al rfl 25 rfl alloc_blk ?_; simp only [Act.put]) | (refine wpList_st rfl 25 (.tmp 9) (.tmp 17) rfl DSt.out ?_; simp only [Act.put]))
      try simp only [List.setIfInBounds_toArray, List.set_cons_zero, List.set_cons_succ]
      generalize w2.alloc (.cells (bvs (blkC (0))).toArray 25) = V2 at *
      generalize w2.heap.size = g9 at *
      clear DSt
      have DSt := Lib.hid (st_blk (l := zB) B2.out (blkC_length 0) zB_length)
      have X5 := Lib.hid (below_setRow X2.out X3 (bvs zB).toArray)
      have L7 := Lib.hid (ld_blk ((setRow_other V2 g9 g7 (bvs zB).toArray g79).trans B1'.out) lb)
      have L9 := Lib.hid (ld_blk (setRow_heap _ _ _ (bvs zB).toArray _ _ B2.out) zB_length)
      clear X2 B1' B2
      go_upto_region 5 with (first | (refine wpList_bd rfl 25 rfl build_blk ?_; simp only [Act.put]) | (refine wpList_st rfl 25 (.tmp 9) (.tmp 20) rfl DSt.out ?_; simp only [Act.put]))
      generalize V2.setRow g9 (bvs zB).toArray = V3 at *
      clear DSt
      go_wp2_with (first | (refine wpList_ldg 25 (.tmp 7) rfl (by rfl) L7.out ?_; simp only [Act.put]) | (refine wpList_ldg 25 (.tmp 9) rfl (by rfl) L9.out ?_; simp only [Act.put]))
      go_ret
      refine ⟨by simp, h.ext X5.out, X5.out⟩
  · have hc2 : ¬ (c.toNat : Int) = 0 := fun e => hc (UInt8.toNat_inj.1 (by simpa using e))
    rw [blk0_ne hc]
    rcases hE with rfl | hE
    · skip
      have lz : (blkC c).length = 512 := blkC_length c
      go_enter Try.func34, Try.ntmps34
      go_wp2_with fail
      refine RD.out.mono ?_
      rintro e w1 ⟨rfl, h1, k1⟩
      have st := st_blk (l := b) (heap_alloc_last w1 (.cells (bvs zB).toArray 25)) zB_length lb
      rw [World.setRow_alloc_new] at st
      have DSt := Lib.hid st
      have X1 := Lib.hid (Ext.trans k1 (extAl w1 (.cells (bvs b).toArray 25)))
      have B1 := Lib.hid (heap_alloc_last w1 (.cells (bvs b).toArray 25))
      clear st k1 h1
      go_upto_region 2 with (first | (refine wpList_al rfl 25 rfl alloc_blk ?_; simp only [Act.put]) | (refine wpList_st rfl 25 (.tmp 7) (.tmp 14) rfl DSt.out ?_; simp only [Act.put]))
      try simp only [List.setIfInBounds_toArray, List.set_cons_zero, List.set_cons_succ]
      generalize w1.alloc (.cells (bvs b).toArray 25) = V1 at *
      generalize w1.heap.size = g7 at *
      clear DSt
      go_wp2_with fail
      refine (block_any (c) _ rfl _).mono ?_
      rintro e w2 ⟨rfl, k2⟩
      have st := st_blk (l := blkC (c)) (heap_alloc_last w2 (.cells (bvs zB).toArray 25)) zB_length (blkC_length (c))
      rw [World.setRow_alloc_new] at st
      have DSt := Lib.hid st
      have X2 := Lib.hid (Ext.trans X1.out (Ext.trans k2 (extAl w2 (.cells (bvs (blkC (c))).toArray 25))))
      have B2 := Lib.hid (heap_alloc_last w2 (.cells (bvs (blkC (c))).toArray 25))
      have B1' := Lib.hid ((Below.block (Ext.trans k2 (extAl w2 (.cells (bvs (blkC (c))).toArray 25))) g7 (Array.getElem?_eq_some_iff.1 B1.out).1).trans B1.out)
      have g79 : g7 ≠ w2.heap.size := fun e => by
        have := (Array.getElem?_eq_some_iff.1 B1.out).1
        have := Below.size k2
        omega
      have X3 : w.heap.size ≤ w2.heap.size := by
        have h1 := X1.out.size
        have h2 := Below.size k2
        omega
      clear st k2 X1 B1
      go_upto_region 3 with (first | (refine wpList_al rfl 25 rfl alloc_blk ?_; simp only [Act.put]) | (refine wpList_st rfl 25 (.tmp 9) (.tmp 17) rfl DSt.out ?_; simp only [Act.put]))
      try simp only [List.setIfInBounds_toArray, List.set_cons_zero, List.set_cons_succ]
      generalize w2.alloc (.cells (bvs (blkC (c))).toArray 25) = V2 at *
      generalize w2.heap.size = g9 at *
      clear DSt
      have X5 := X2
      have L7 := Lib.hid (ld_blk B1'.out lb)
      have L9 := Lib.hid (ld_blk B2.out (blkC_length c))
      clear X2 B1' B2
      go_wp2_with (first | (refine wpList_ldg 25 (.tmp 7) rfl (by rfl) L7.out ?_; simp only [Act.put]) | (refine wpList_ldg 25 (.tmp 9) rfl (by rfl) L9.out ?_; simp only [Act.put]))
      go_ret
      refine ⟨by simp, h.ext X5.out, X5.out⟩
    · have he : ¬ e = 0 := by omega
      have hf : decide (e = 0) = false := by simp [he]
      rw [hf]
      clear hE hf
      have lz : (blkC c).length = 512 := blkC_length c
      go_enter Try.func34, Try.ntmps34
      go_wp2_with fail
      refine RD.out.mono ?_
      rintro e w1 ⟨rfl, h1, k1⟩
      have st := st_blk (l := b) (heap_alloc_last w1 (.cells (bvs zB).toArray 25)) zB_length lb
      rw [World.setRow_alloc_new] at st
      have DSt := Lib.hid st
      have X1 := Lib.hid (Ext.trans k1 (extAl w1 (.cells (bvs b).toArray 25)))
      have B1 := Lib.hid (heap_alloc_last w1 (.cells (bvs b).toArray 25))
      clear st k1 h1
      go_upto_region 2 with (first | (refine wpList_al rfl 25 rfl alloc_blk ?_; simp only [Act.put]) | (refine wpList_st rfl 25 (.tmp 7) (.tmp 14) rfl DSt.out ?_; simp only [Act.put]))
      try simp only [List.setIfInBounds_toArray, List.set_cons_zero, List.set_cons_succ]
      generalize w1.alloc (.cells (bvs b).toArray 25) = V1 at *
      generalize w1.heap.size = g7 at *
      clear DSt
      go_wp2_with fail
      refine (block_any (c) _ rfl _).mono ?_
      rintro e w2 ⟨rfl, k2⟩
      have st := st_blk (l := blkC (c)) (heap_alloc_last w2 (.cells (bvs zB).toArray 25)) zB_length (blkC_length (c))
      rw [World.setRow_alloc_new] at st
      have DSt := Lib.hid st
      have X2 := Lib.hid (Ext.trans X1.out (Ext.trans k2 (extAl w2 (.cells (bvs (blkC (c))).toArray 25))))
      have B2 := Lib.hid (heap_alloc_last w2 (.cells (bvs (blkC (c))).toArray 25))
      have B1' := Lib.hid ((Below.block (Ext.trans k2 (extAl w2 (.cells (bvs (blkC (c))).toArray 25))) g7 (Array.getElem?_eq_some_iff.1 B1.out).1).trans B1.out)
      have g79 : g7 ≠ w2.heap.size := fun e => by
        have := (Array.getElem?_eq_some_iff.1 B1.out).1
        have := Below.size k2
        omega
      have X3 : w.heap.size ≤ w2.heap.size := by
        have h1 := X1.out.size
        have h2 := Below.size k2
        omega
      clear st k2 X1 B1
      go_upto_region 3 with (first | (refine wpList_al rfl 25 rfl alloc_blk ?_; simp only [Act.put]) | (refine wpList_st rfl 25 (.tmp 9) (.tmp 17) rfl DSt.out ?_; simp only [Act.put]))
      try simp only [List.setIfInBounds_toArray, List.set_cons_zero, List.set_cons_succ]
      generalize w2.alloc (.cells (bvs (blkC (c))).toArray 25) = V2 at *
      generalize w2.heap.size = g9 at *
      clear DSt
      have X5 := X2
      have L7 := Lib.hid (ld_blk B1'.out lb)
      have L9 := Lib.hid (ld_blk B2.out (blkC_length c))
      clear X2 B1' B2
      go_wp2_with (first | (refine wpList_ldg 25 (.tmp 7) rfl (by rfl) L7.out ?_; simp only [Act.put]) | (refine wpList_ldg 25 (.tmp 9) rfl (by rfl) L9.out ?_; simp only [Act.put]))
      go_ret
      refine ⟨by simp, h.ext X5.out, X5.out⟩
end
end Go.Proofs.Ytobcfocbglkicaa
