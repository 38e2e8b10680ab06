/- Proved: BlockNames returns true. Closed; no condition. -/
import Derived.Test.YthoeklcgdbbbgaaBlkM
import Derived.Test.YthoeklcgdbbbgaaBlkD
import Derived.Test.YthoeklcgdbbbgaaLiftB
set_option linter.unusedVariables false
namespace Go.Proofs.Ythoeklcgdbbbgaa.blockNames
open Go.RowKit Go.ChangeShapes Go.WideShapes Go.ChangeAt Go.Deep Go.Proofs.Ythoeklcgdbbbgaa
attribute [local go_sem ↓] neq_blk eql_blk eql_ptr neq_ptr

def z501 : List UInt8 := List.replicate 501 0
def z500 : List UInt8 := List.replicate 500 0
theorem z501_length : z501.length = 501 := List.length_replicate
theorem z500_length : z500.length = 500 := List.length_replicate
theorem mk501 (w : World) : (Instr.makeSlice 43 (.int .i64 501) (.int .i64 501)).run Try.prog w = .ok (.slice (some ⟨w.heap.size, 0, none⟩) 501 501) (w.alloc (.cells (bvs z501).toArray 5)) := by kernel_rfl
theorem mk500 (w : World) : (Instr.makeSlice 43 (.int .i64 500) (.int .i64 500)).run Try.prog w = .ok (.slice (some ⟨w.heap.size, 0, none⟩) 500 500) (w.alloc (.cells (bvs z500).toArray 5)) := by kernel_rfl
theorem mk16 (w : World) : (Instr.makeSlice 43 (.int .i64 16) (.int .i64 16)).run Try.prog w = .ok (.slice (some ⟨w.heap.size, 0, none⟩) 16 16) (w.alloc (.cells (bvs z16).toArray 5)) := by kernel_rfl
theorem cvz (w : World) (l : List UInt8) (n : Nat) (h : l.length = n) : (convert 43 9 (.slice (some ⟨w.heap.size, 0, none⟩) n n)).run Try.prog (w.alloc (.cells (bvs l).toArray 5)) = .ok (.string (str l)) (w.alloc (.cells (bvs l).toArray 5)) := by
  have hrs : RS (w.alloc (.cells (bvs l).toArray 5)) (.slice (some ⟨w.heap.size, 0, none⟩) n n) l := by
    have := rs_block (w := w.alloc (.cells (bvs l).toArray 5)) (c := n) (m := l) (off := 0) (l := l) (heap_alloc_last w _) (by rw [List.drop_zero, List.take_length]) (by omega)
    rwa [h] at this
  exact convB hrs _ (Ext.refl _)
def bx : List UInt8 := sealL 255 2147483647 z500
theorem bx_length : bx.length = 512 := sealL_length (by rw [z500_length]; omega)
theorem bx_seal : sealR 255 2147483647 z500 = (bx, 0) := by
  unfold sealR; rw [if_pos (by omega), if_pos (by rw [z500_length]; omega)]; rfl
theorem bx_open : openR bx = ⟨255, 2147483647, z500, 0⟩ := open_seal (by omega) (by omega) (by rw [z500_length]; omega)
def b0 : List UInt8 := sealL 1 0 []
theorem b0_length : b0.length = 512 := sealL_length (by simp)
def by' : List UInt8 := bx.set 511 1
theorem by_length : by'.length = 512 := by rw [by', List.length_set, bx_length]
def bz : List UInt8 := b0.set 511 1
theorem bz_length : bz.length = 512 := by rw [bz, List.length_set, b0_length]
theorem zB_open : openR zB = ⟨0, 0, [], 4⟩ := by kernel_rfl
theorem by_open : ∃ k b s, openR by' = ⟨k, b, s, 0⟩ := by
  have h : (openR by').e = 0 := by decide +kernel
  obtain ⟨R, hR⟩ : ∃ R, R = openR by' := ⟨_, rfl⟩
  rw [← hR] at h ⊢
  obtain ⟨k, b, s, e⟩ := R
  simp only at h
  exact ⟨k, b, s, by rw [h]⟩
theorem bz_open : openR bz = ⟨0, 0, [], 4⟩ := by kernel_rfl
theorem set_blk {w : World} {g : Nat} {t : TypeId} {l : List UInt8} (hg : w.heap[g]? = some (.cells (bvs l).toArray t (0, 0))) : w.setCell ⟨g, 511, none⟩ (.int .u8 1) = w.setRow g (bvs (l.set 511 1)).toArray := by
  have h := setRow_store (w := w) (i := 511) (l := l) hg 1
  rw [setRow_self w g _ _ _ hg] at h
  exact h
set_option maxHeartbeats 16000000 in
set_option maxRecDepth 100000 in
theorem walk (w : World) : Calls Try.prog 8 #[] w fun e w' => e = .returned (.bool true) ∧ Below w.heap.size w w' := by
  have ho : ∀ r : OpT, r.v = .tuple #[.int .u8 r.k.toNat, .int .i64 r.b, .string (str r.s), .int .i64 r.e] := fun _ => rfl
  have k1 : ∀ w, Calls Try.prog 13 #[.agg (bvs zB).toArray] w fun e w' => e = .returned (.tuple #[.int .u8 0, .int .i64 0, .string ⟨#[]⟩, .int .i64 4]) ∧ Below w.heap.size w w' := fun w => by have h := open_any zB zB_length w; rw [zB_open] at h; exact h
  have k2 : ∀ w, Calls Try.prog 19 #[.agg #[.int .i64 0, .int .i64 0, .int .u64 0], .agg (bvs zB).toArray] w fun e w' => e = .returned (.tuple #[.int .u8 0, .string ⟨#[]⟩, .int .i64 52]) ∧ Below w.heap.size w w' := fun w => by have h := check_any 0 0 0 zB zB_length w; rw [show ckR ⟨0, 0, 0⟩ zB = ⟨0, [], 52⟩ from if_pos (.inl rfl)] at h; exact h
  have k3 : ∀ w, Calls Try.prog 11 #[.int .u8 0, .int .i64 (-1), .string ⟨#[]⟩] w fun e w' => e = .returned (.tuple #[.agg (bvs zB).toArray, .int .i64 1]) ∧ Below w.heap.size w w' := fun w => seal_any 0 (-1) [] w (by simp)
  have k4 : ∀ w, Calls Try.prog 11 #[.int .u8 0, .int .i64 2147483648, .string ⟨#[]⟩] w fun e w' => e = .returned (.tuple #[.agg (bvs zB).toArray, .int .i64 1]) ∧ Below w.heap.size w w' := fun w => seal_any 0 2147483648 [] w (by simp)
  have k5 : ∀ w, Calls Try.prog 11 #[.int .u8 0, .int .i64 0, .string (str z501)] w fun e w' => e = .returned (.tuple #[.agg (bvs zB).toArray, .int .i64 40]) ∧ Below w.heap.size w w' := fun w => by
    have h := seal_any 0 0 z501 w (by rw [z501_length]; unfold maxLen; omega)
    rw [show sealR 0 0 z501 = (zB, 40) by unfold sealR; rw [if_pos (by omega), if_neg (by rw [z501_length]; omega)]] at h
    exact h
  have k6 : ∀ w, Calls Try.prog 11 #[.int .u8 255, .int .i64 2147483647, .string (str z500)] w fun e w' => e = .returned (.tuple #[.agg (bvs bx).toArray, .int .i64 0]) ∧ Below w.heap.size w w' := fun w => by
    have h := seal_any 255 2147483647 z500 w (by rw [z500_length]; unfold maxLen; omega)
    rw [bx_seal] at h
    exact h
  have kt : ∀ a w, ¬ (1 ≤ a ∧ a < 8192) → Calls Try.prog 17 #[.int .i64 a, .agg (bvs bx).toArray] w fun e w' => e = .returned (.tuple #[.agg #[.int .i64 0, .int .i64 0, .int .u64 0], .int .i64 1]) ∧ Below w.heap.size w w' := fun a w ha => by
    have h := to_any a bx bx_length w
    rw [show toR a bx = (⟨0, 0, 0⟩, 1) by unfold toR; rw [bx_open, if_pos rfl, if_neg ha]] at h
    exact h
  have k9 : ∀ w, Calls Try.prog 17 #[.int .i64 8191, .agg (bvs bx).toArray] w fun e w' => e = .returned (.tuple #[.agg #[.int .i64 8191, .int .i64 2147483647, .int .u64 (fnv bx)], .int .i64 0]) ∧ Below w.heap.size w w' := fun w => by
    have h := to_any 8191 bx bx_length w
    rw [show toR 8191 bx = (⟨8191, 2147483647, fnv bx⟩, 0) by unfold toR; rw [bx_open, if_pos rfl, if_pos (by omega)]] at h
    exact h
  have k10 : ∀ w, Calls Try.prog 21 #[.agg #[.int .i64 0, .int .i64 0, .int .u64 1]] w fun e w' => e = .returned (.tuple #[.string ⟨#[]⟩, .int .i64 4]) ∧ Below w.heap.size w w' := fun w => encode_any 0 0 1 (by omega) w
  have k11 : ∀ w, Calls Try.prog 21 #[.agg #[.int .i64 0, .int .i64 0, .int .u64 0]] w fun e w' => e = .returned (.tuple #[.string (str z16), .int .i64 0]) ∧ Below w.heap.size w w' := fun w => by
    have h := encode_any 0 0 0 (by omega) w
    rw [show pEnc 0 0 0 = (z16, 0) by kernel_rfl] at h
    exact h
  have k12 : ∀ w, Calls Try.prog 21 #[.agg #[.int .i64 8192, .int .i64 0, .int .u64 0]] w fun e w' => e = .returned (.tuple #[.string ⟨#[]⟩, .int .i64 4]) ∧ Below w.heap.size w w' := fun w => encode_any 8192 0 0 (by omega) w
  have k13 : ∀ w, Calls Try.prog 23 #[.string (str z16)] w fun e w' => e = .returned (.tuple #[.agg #[.int .i64 0, .int .i64 0, .int .u64 0], .int .i64 0]) ∧ Below w.heap.size w w' := fun w => by
    have h := decode_any z16 (by decide) w
    rw [show pDec z16 = (⟨0, 0, 0⟩, 0) by kernel_rfl] at h
    exact h
  obtain ⟨F, hF⟩ : ∃ F, F = fnv bx := ⟨_, rfl⟩
  rw [← hF] at k9
  clear hF
  obtain ⟨yk, yb, ys, hy⟩ := by_open
  have k16 : ∀ w, Calls Try.prog 13 #[.agg (bvs by').toArray] w fun e w' => e = .returned (.tuple #[.int .u8 yk.toNat, .int .i64 yb, .string (str ys), .int .i64 0]) ∧ Below w.heap.size w w' := fun w => by have h := open_any by' by_length w; rw [hy] at h; exact h
  have k17 : ∀ w, Calls Try.prog 11 #[.int .u8 1, .int .i64 0, .string ⟨#[]⟩] w fun e w' => e = .returned (.tuple #[.agg (bvs b0).toArray, .int .i64 0]) ∧ Below w.heap.size w w' := fun w => seal_any 1 0 [] w (by simp)
  have k19 : ∀ w, Calls Try.prog 13 #[.agg (bvs bz).toArray] w fun e w' => e = .returned (.tuple #[.int .u8 0, .int .i64 0, .string ⟨#[]⟩, .int .i64 4]) ∧ Below w.heap.size w w' := fun w => by have h := open_any bz bz_length w; rw [bz_open] at h; exact h
  have K1 := Lib.hid k1
  have K2 := Lib.hid k2
  have K3 := Lib.hid k3
  have K4 := Lib.hid k4
  have K5 := Lib.hid k5
  have K6 := Lib.hid k6
  have KT := Lib.hid kt
  have K9 := Lib.hid k9
  have K10 := Lib.hid k10
  have K11 := Lib.hid k11
  have K12 := Lib.hid k12
  have K13 := Lib.hid k13
  have K16 := Lib.hid k16
  have K17 := Lib.hid k17
  have K19 := Lib.hid k19
  clear k1 k2 k3 k4 k5 k6 kt k9 k10 k11 k12 k13 k16 k17 k19 ho hy
  have q0 : eqP 0 0 0 0 0 0 = true := by decide
  have X : Ext w w := Ext.refl w
  go_enter Try.func8, Try.ntmps8
  go_wp2_with (refine wpList_bd rfl 23 rfl build_blk ?_; simp only [Act.put])
  refine (K1.out _).mono ?_
  rintro e w1 ⟨rfl, k⟩
  have X' := Ext.trans X k
  clear X k
  have X := X'
  clear X'
  go_wp2_with (refine wpList_bd rfl 23 rfl build_blk ?_; simp only [Act.put])
  refine (K2.out _).mono ?_
  rintro e w2 ⟨rfl, k⟩
  have X' := Ext.trans X k
  clear X k
  have X := X'
  clear X'
  go_wp2_with fail
  refine (K3.out _).mono ?_
  rintro e w3 ⟨rfl, k⟩
  have X' := Ext.trans X k
  clear X k
  have X := X'
  clear X'
  have st := st_blk (l := zB) (heap_alloc_last w3 (.cells (bvs zB).toArray 23)) zB_length zB_length
  rw [World.setRow_alloc_new] at st
  have St := Lib.hid st
  clear st
  go_wp2_with (first | (refine wpList_bd rfl 23 rfl build_blk ?_; simp only [Act.put]) | (refine wpList_al rfl 23 rfl alloc_blk ?_; simp only [Act.put]) | (refine wpList_st rfl 23 (.tmp 8) (.tmp 57) rfl St.out ?_; simp only [Act.put]))
  have X' : Ext w (w3.alloc (.cells (bvs zB).toArray 23)) := Ext.trans X (ext_alloc w3 _)
  clear X St
  have X := X'
  clear X'
  generalize w3.alloc (.cells (bvs zB).toArray 23) = v3 at *
  refine (K4.out _).mono ?_
  rintro e w4 ⟨rfl, k⟩
  have X' := Ext.trans X k
  clear X k
  have X := X'
  clear X'
  have st := st_blk (l := zB) (heap_alloc_last w4 (.cells (bvs zB).toArray 23)) zB_length zB_length
  rw [World.setRow_alloc_new] at st
  have St := Lib.hid st
  clear st
  go_upto_region 5 with (first | (refine wpList_al rfl 23 rfl alloc_blk ?_; simp only [Act.put]) | (refine wpList_st rfl 23 (.tmp 10) (.tmp 61) rfl St.out ?_; simp only [Act.put]))
  have X' : Ext w (w4.alloc (.cells (bvs zB).toArray 23)) := Ext.trans X (ext_alloc w4 _)
  clear X St
  have X := X'
  clear X'
  generalize w4.alloc (.cells (bvs zB).toArray 23) = v4 at *
  have m5 := mk501 v4
  have c5 := cvz v4 z501 501 z501_length
  go_wp2_with fail
  have X' := Ext.trans X (ext_alloc v4 (.cells (bvs z501).toArray 5))
  clear X m5 c5
  have X := X'
  clear X'
  refine (K5.out _).mono ?_
  rintro e w5 ⟨rfl, k⟩
  have X' := Ext.trans X k
  clear X k
  have X := X'
  clear X'
  have st := st_blk (l := zB) (heap_alloc_last w5 (.cells (bvs zB).toArray 23)) zB_length zB_length
  rw [World.setRow_alloc_new] at st
  have St := Lib.hid st
  clear st
  go_upto_region 6 with (first | (refine wpList_al rfl 23 rfl alloc_blk ?_; simp only [Act.put]) | (refine wpList_st rfl 23 (.tmp 12) (.tmp 67) rfl St.out ?_; simp only [Act.put]))
  have X' : Ext w (w5.alloc (.cells (bvs zB).toArray 23)) := Ext.trans X (ext_alloc w5 _)
  clear X St
  have X := X'
  clear X'
  generalize w5.alloc (.cells (bvs zB).toArray 23) = v5 at *
  have m5 := mk500 v5
  have c5 := cvz v5 z500 500 z500_length
  go_wp2_with fail
  have X' := Ext.trans X (ext_alloc v5 (.cells (bvs z500).toArray 5))
  clear X m5 c5
  have X := X'
  clear X'
  refine (K6.out _).mono ?_
  rintro e w6 ⟨rfl, k⟩
  have X' := Ext.trans X k
  clear X k
  have X := X'
  clear X'
  have st := st_blk (l := bx) (heap_alloc_last w6 (.cells (bvs zB).toArray 23)) zB_length bx_length
  rw [World.setRow_alloc_new] at st
  have St := Lib.hid st
  clear st
  go_upto_region 7 with (first | (refine wpList_al rfl 23 rfl alloc_blk ?_; simp only [Act.put]) | (refine wpList_st rfl 23 (.tmp 14) (.tmp 73) rfl St.out ?_; simp only [Act.put]))
  have X' : Ext w (w6.alloc (.cells (bvs bx).toArray 23)) := Ext.trans X (ext_alloc w6 _)
  clear X St
  have X := X'
  clear X'
  have B14 := Lib.hid (heap_alloc_last w6 (.cells (bvs bx).toArray 23))
  generalize w6.alloc (.cells (bvs bx).toArray 23) = v6 at *
  generalize w6.heap.size = g14 at *
  have ld := Lib.hid (ld_blk B14.out bx_length)
  go_wp2_with (refine wpList_ld rfl 23 (.tmp 14) rfl ld.out ?_; simp only [Act.put])
  refine (KT.out _ _ (by omega)).mono ?_
  rintro e w7 ⟨rfl, k⟩
  have X' := Ext.trans (Ext.trans X k) (ext_alloc w7 (.cells #[.int .i64 0, .int .i64 0, .int .u64 0] 26))
  have B14' := (Below.heap_alloc w7 (.cells #[.int .i64 0, .int .i64 0, .int .u64 0] 26) g14 (Nat.lt_of_lt_of_le (Array.getElem?_eq_some_iff.1 B14.out).1 k.size)).trans ((Below.block k g14 (Array.getElem?_eq_some_iff.1 B14.out).1).trans B14.out)
  clear X k B14 ld
  have X := X'
  have B14 := Lib.hid B14'
  have ld := Lib.hid (ld_blk B14.out bx_length)
  clear X' B14'
  go_upto_region 8 with fail
  generalize w7.alloc (.cells #[.int .i64 0, .int .i64 0, .int .u64 0] 26) = v7 at *
  go_wp2_with (refine wpList_ld rfl 23 (.tmp 14) rfl ld.out ?_; simp only [Act.put])
  refine (KT.out _ _ (by omega)).mono ?_
  rintro e w8 ⟨rfl, k⟩
  have X' := Ext.trans (Ext.trans X k) (ext_alloc w8 (.cells #[.int .i64 0, .int .i64 0, .int .u64 0] 26))
  have B14' := (Below.heap_alloc w8 (.cells #[.int .i64 0, .int .i64 0, .int .u64 0] 26) g14 (Nat.lt_of_lt_of_le (Array.getElem?_eq_some_iff.1 B14.out).1 k.size)).trans ((Below.block k g14 (Array.getElem?_eq_some_iff.1 B14.out).1).trans B14.out)
  clear X k B14 ld
  have X := X'
  have B14 := Lib.hid B14'
  have ld := Lib.hid (ld_blk B14.out bx_length)
  clear X' B14'
  go_upto_region 9 with fail
  generalize w8.alloc (.cells #[.int .i64 0, .int .i64 0, .int .u64 0] 26) = v8 at *
  go_wp2_with (refine wpList_ld rfl 23 (.tmp 14) rfl ld.out ?_; simp only [Act.put])
  refine (K9.out _).mono ?_
  rintro e w9 ⟨rfl, k⟩
  have X' := Ext.trans (Ext.trans X k) (ext_alloc w9 (.cells #[.int .i64 8191, .int .i64 2147483647, .int .u64 F] 26))
  have B14' := (Below.heap_alloc w9 (.cells #[.int .i64 8191, .int .i64 2147483647, .int .u64 F] 26) g14 (Nat.lt_of_lt_of_le (Array.getElem?_eq_some_iff.1 B14.out).1 k.size)).trans ((Below.block k g14 (Array.getElem?_eq_some_iff.1 B14.out).1).trans B14.out)
  clear X k B14 ld
  have X := X'
  have B14 := Lib.hid B14'
  clear X' B14'
  go_upto_region 10 with fail
  generalize w9.alloc (.cells #[.int .i64 8191, .int .i64 2147483647, .int .u64 F] 26) = v9 at *
  go_wp2_with fail
  refine (K10.out _).mono ?_
  rintro e w10 ⟨rfl, k⟩
  have X' := Ext.trans X k
  have B' := Lib.hid ((Below.block k g14 (Array.getElem?_eq_some_iff.1 B14.out).1).trans B14.out)
  clear X k B14
  have X := X'
  have B14 := B'
  clear X' B'
  go_wp2_with fail
  refine (K11.out _).mono ?_
  rintro e w11 ⟨rfl, k⟩
  have X' := Ext.trans X k
  have B' := Lib.hid ((Below.block k g14 (Array.getElem?_eq_some_iff.1 B14.out).1).trans B14.out)
  clear X k B14
  have X := X'
  have B14 := B'
  clear X' B'
  go_wp2_with fail
  refine (K12.out _).mono ?_
  rintro e w12 ⟨rfl, k⟩
  have X' := Ext.trans X k
  have B' := Lib.hid ((Below.block k g14 (Array.getElem?_eq_some_iff.1 B14.out).1).trans B14.out)
  clear X k B14
  have X := X'
  have B14 := B'
  clear X' B'
  go_wp2_with fail
  refine (K13.out _).mono ?_
  rintro e w13 ⟨rfl, k⟩
  have X' := Ext.trans X k
  have B' := Lib.hid ((Below.block k g14 (Array.getElem?_eq_some_iff.1 B14.out).1).trans B14.out)
  clear X k B14
  have X := X'
  have B14 := B'
  clear X' B'
  have X' := Ext.trans X (ext_alloc w13 (.cells #[.int .i64 0, .int .i64 0, .int .u64 0] 26))
  have B14' := (Below.heap_alloc w13 (.cells #[.int .i64 0, .int .i64 0, .int .u64 0] 26) g14 (Array.getElem?_eq_some_iff.1 B14.out).1).trans B14.out
  have B28 := Lib.hid (heap_alloc_last w13 (.cells #[.int .i64 0, .int .i64 0, .int .u64 0] 26))
  clear X B14
  have X := X'
  have ld := Lib.hid (ld_blk B14' bx_length)
  clear X' B14'
  go_upto_region 14 with fail
  generalize w13.alloc (.cells #[.int .i64 0, .int .i64 0, .int .u64 0] 26) = v13 at *
  generalize w13.heap.size = g28 at *
  have st := st_blk (l := bx) (heap_alloc_last v13 (.cells (bvs zB).toArray 23)) zB_length bx_length
  rw [World.setRow_alloc_new] at st
  have St := Lib.hid st
  clear st
  go_upto_region 15 with (first | (refine wpList_ld rfl 23 (.tmp 14) rfl ld.out ?_; simp only [Act.put]) | (refine wpList_al rfl 23 rfl alloc_blk ?_; simp only [Act.put]) | (refine wpList_st rfl 23 (.tmp 30) (.tmp 110) rfl St.out ?_; simp only [Act.put]))
  have l28 := (Array.getElem?_eq_some_iff.1 B28.out).1
  have hz30 : w.heap.size ≤ v13.heap.size := X.size
  have X' := Ext.trans X (ext_alloc v13 (.cells (bvs bx).toArray 23))
  have B30 := Lib.hid (heap_alloc_last v13 (.cells (bvs bx).toArray 23))
  have B28' := Lib.hid ((Below.heap_alloc v13 (.cells (bvs bx).toArray 23) g28 l28).trans B28.out)
  clear X B28 St ld
  have X := X'
  have B28 := B28'
  clear X' B28'
  generalize v13.alloc (.cells (bvs bx).toArray 23) = v14 at *
  generalize v13.heap.size = g30 at *
  have hcell : v14.cell? ⟨g30, 511, none⟩ = some (bv (bx[511]'(by rw [bx_length]; omega))) := by
    rw [cell_of_row _ _ _ _ _ _ B30.out]; simpa using bvs_get (l := bx) (i := 511) (by rw [bx_length]; omega)
  have hfro : v14.frozen? ⟨g30, 511, none⟩ = false := by simp [World.frozen?, B30.out]
  go_upto_region 16 with fail
  clear hcell hfro
  rw [set_blk B30.out]
  have X' : Ext w (v14.setRow g30 (bvs by').toArray) := below_setRow X hz30 _
  have B30' := Lib.hid (setRow_heap v14 g30 _ (bvs by').toArray _ _ B30.out)
  have B28' := Lib.hid ((setRow_other v14 g30 g28 (bvs by').toArray (by omega)).trans B28.out)
  have ey : bx.set 511 1 = by' := rfl
  rw [ey]
  clear X B28 B30 ey
  have X := X'
  have B28 := B28'
  clear X' B28'
  generalize v14.setRow g30 (bvs by').toArray = v15 at *
  have ld := Lib.hid (ld_blk B30'.out by_length)
  go_wp2_with (refine wpList_ld rfl 23 (.tmp 30) rfl ld.out ?_; simp only [Act.put])
  clear ld B30'
  refine (K16.out _).mono ?_
  rintro e w16 ⟨rfl, k⟩
  have X' := Ext.trans X k
  have B' := Lib.hid ((Below.block k g28 (Array.getElem?_eq_some_iff.1 B28.out).1).trans B28.out)
  clear X k B28
  have X := X'
  have B28 := B'
  clear X' B'
  go_wp2_with fail
  refine (K17.out _).mono ?_
  rintro e w17 ⟨rfl, k⟩
  have X' := Ext.trans X k
  have B' := Lib.hid ((Below.block k g28 (Array.getElem?_eq_some_iff.1 B28.out).1).trans B28.out)
  clear X k B28
  have X := X'
  have B28 := B'
  clear X' B'
  clear hz30 l28
  have l28 := (Array.getElem?_eq_some_iff.1 B28.out).1
  have B28' := Lib.hid ((Below.heap_alloc w17 (.cells (bvs b0).toArray 23) g28 l28).trans B28.out)
  have hz35 : w.heap.size ≤ w17.heap.size := X.size
  have st := st_blk (l := b0) (heap_alloc_last w17 (.cells (bvs zB).toArray 23)) zB_length b0_length
  rw [World.setRow_alloc_new] at st
  have St := Lib.hid st
  clear st
  go_upto_region 18 with (first | (refine wpList_al rfl 23 rfl alloc_blk ?_; simp only [Act.put]) | (refine wpList_st rfl 23 (.tmp 35) (.tmp 121) rfl St.out ?_; simp only [Act.put]))
  have X' : Ext w (w17.alloc (.cells (bvs b0).toArray 23)) := Ext.trans X (ext_alloc w17 _)
  clear X St
  have X := X'
  clear X'
  have B35 := Lib.hid (heap_alloc_last w17 (.cells (bvs b0).toArray 23))
  clear B28
  have B28 := B28'
  clear B28'
  generalize w17.alloc (.cells (bvs b0).toArray 23) = v17 at *
  generalize w17.heap.size = g35 at *
  have hcell : v17.cell? ⟨g35, 511, none⟩ = some (bv (b0[511]'(by rw [b0_length]; omega))) := by
    rw [cell_of_row _ _ _ _ _ _ B35.out]; simpa using bvs_get (l := b0) (i := 511) (by rw [b0_length]; omega)
  have hfro : v17.frozen? ⟨g35, 511, none⟩ = false := by simp [World.frozen?, B35.out]
  go_upto_region 19 with fail
  clear hcell hfro
  rw [set_blk B35.out]
  have X' : Ext w (v17.setRow g35 (bvs bz).toArray) := below_setRow X hz35 _
  have B35' := Lib.hid (setRow_heap v17 g35 _ (bvs bz).toArray _ _ B35.out)
  have B28' := Lib.hid ((setRow_other v17 g35 g28 (bvs bz).toArray (by omega)).trans B28.out)
  have ez : b0.set 511 1 = bz := rfl
  rw [ez]
  clear X B28 B35 ez
  have X := X'
  have B28 := B28'
  clear X' B28'
  generalize v17.setRow g35 (bvs bz).toArray = v18 at *
  have ld := Lib.hid (ld_blk B35'.out bz_length)
  go_wp2_with (refine wpList_ld rfl 23 (.tmp 35) rfl ld.out ?_; simp only [Act.put])
  clear ld B35' hz35 l28
  refine (K19.out _).mono ?_
  rintro e w19 ⟨rfl, k⟩
  have X' := Ext.trans X k
  have B' := Lib.hid ((Below.block k g28 (Array.getElem?_eq_some_iff.1 B28.out).1).trans B28.out)
  clear X k B28
  have X := X'
  have B28 := B'
  clear X' B'
  obtain ⟨c0, c1, c2, -, -, -, lt28⟩ := blk3 B28.out
  have m5 := mk16 w19
  have c5 := cvz w19 z16 16 rfl
  have X' := Ext.trans X (ext_alloc w19 (.cells (bvs z16).toArray 5))
  go_wp2_with (go_at_call 10; refine (awake_any _).mono ?_; rintro e w99 ⟨rfl, hb99⟩; have hz99 := hb99.size; (try simp only [World.size_alloc] at hz99))
  go_ret
  exact ⟨rfl, Ext.trans X' hb99⟩

theorem own : ownKnob Try.prog.godebug = none := by kernel_rfl
theorem laidOut : laidOutB Try.prog = true := by kernel_rfl

set_option maxRecDepth 100000 in
theorem lifted (os : Os) (started : os.Started) (H : Type) (enc : TypeId × Value → H) :
    ReturnsInHanded {} Try.checked os 8 .any (Rows.blockNamesSpec.pre6 enc Try.prog Try.f8 Rows.blockNamesRow.domain false) (Rows.blockNamesSpec.post enc Try.prog Try.f8 false true false false) := by
  refine returnsInHanded_of_change (C := Try.checked) own started (by kernel_rfl) Try.func8
    (ChangeSpec.witness6 (enc := enc) (C := Try.checked) false ⟨#[], #[], []⟩ 8 (by kernel_rfl) (by kernel_rfl) (by kernel_rfl) (by kernel_rfl)) ?_
  intro W base args ds gs before hval0 hW hcnd _
  have hval : ∀ (j : Nat) t v, Try.f8.params[j]? = some t → args[j]? = some v → Value.okWide Try.prog W .any base t v := hval0
  have hW' := hW
  obtain ⟨p, q, hA0, hV, rfl, hfz, hnd⟩ := hW
  have hA : DataW.TrodAll enc Try.prog W 0 (fun _ => true) true Try.f8.params.toList args.toList ds p := hA0
  rw [Try.params8] at hA hval
  obtain ⟨rfl, rfl, rfl⟩ := trodAll_none hA
  obtain ⟨rfl, rfl⟩ := trodVars_none hV
  refine (walk  W).mono fun e W' ⟨he, bel⟩ => ?_
  subst he
  exact ⟨_, rfl, _, _, _, [], _, [], hW', trodAll_mk1 (shut_bool Try.underlying4 _), trodAll_mk0, rfl, bel.frame _, fun h => by cases h⟩

theorem proved : Rows.BlockNamesSaid :=
  OpenClaim.holds_of_wide 8 Try.f8 rfl rfl rfl rfl rfl rfl rfl ⟨rfl, rfl, rfl, rfl, rfl⟩ rfl rfl rfl rfl rfl (by kernel_rfl) Try.func8 (by kernel_rfl)
    (of_decide_eq_true (by kernel_rfl)) (by unfold Func.isWrapper; first | (rw [if_pos (by decide +kernel)]; kernel_rfl) | (rw [if_neg (by decide +kernel)]; exact ⟨rfl, rfl⟩))
    (fun os started H enc _ => lifted os started H enc)
end Go.Proofs.Ythoeklcgdbbbgaa.blockNames
