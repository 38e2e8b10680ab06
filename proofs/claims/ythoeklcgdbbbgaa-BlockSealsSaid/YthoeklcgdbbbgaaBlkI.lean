/- Plain laws of sealed blocks; the walk of awake. -/
import Derived.Test.YthoeklcgdbbbgaaBlkH
set_option linter.unusedVariables false
namespace Go.Proofs.Ythoeklcgdbbbgaa
open Go.RowKit

theorem nB_be2 {n : Int} (h0 : 0 ≤ n) (h1 : n < 65536) : nB [byteOf (n / 256), byteOf n] = n := by
  have a := byteOf_toNat (n / 256)
  have b := byteOf_toNat n
  simp only [nB, List.foldl_cons, List.foldl_nil]
  omega
theorem nB_be4 {n : Int} (h0 : 0 ≤ n) (h1 : n < 4294967296) : nB [byteOf (n / 16777216), byteOf (n / 65536), byteOf (n / 256), byteOf n] = n := by
  have a := byteOf_toNat (n / 256)
  have b := byteOf_toNat n
  have c := byteOf_toNat (n / 65536)
  have d := byteOf_toNat (n / 16777216)
  simp only [nB, List.foldl_cons, List.foldl_nil]
  omega
theorem seal_form (k : UInt8) (b : Int) (s : List UInt8) : sealL k b s = 106 :: 116 :: 116 :: 121 :: k :: 0 :: byteOf ((s.length : Int) / 256) :: byteOf s.length :: byteOf (b / 16777216) :: byteOf (b / 65536) :: byteOf (b / 256) :: byteOf b :: (s ++ List.replicate (500 - s.length) 0) := by
  unfold sealL pad
  have hl : (hdr k s.length b ++ s).length = 12 + s.length := by rw [List.length_append, hdr_length]
  rw [hl, show 512 - (12 + s.length) = 500 - s.length by omega]
  simp [hdr, jt, beN]
theorem seal_n {k : UInt8} {b : Int} {s : List UInt8} (h : s.length ≤ 500) : nAt (sealL k b s) 6 2 = s.length := by
  rw [seal_form]; exact nB_be2 (by omega) (by omega)
theorem seal_b {k : UInt8} {b : Int} {s : List UInt8} (h0 : 0 ≤ b) (h1 : b ≤ 2147483647) : nAt (sealL k b s) 8 4 = b := by
  rw [seal_form]; exact nB_be4 (by omega) (by omega)
theorem seal_k {k : UInt8} {b : Int} {s : List UInt8} : (sealL k b s).getD 4 0 = k := by rw [seal_form]; rfl
theorem seal_s {k : UInt8} {b : Int} {s : List UInt8} : ((sealL k b s).drop 12).take s.length = s := by
  rw [seal_form]
  show (s ++ List.replicate (500 - s.length) 0).take s.length = s
  rw [List.take_left' rfl]
/-- What was sealed is opened so. -/
theorem open_seal {k : UInt8} {b : Int} {s : List UInt8} (h0 : 0 ≤ b) (h1 : b ≤ 2147483647) (h2 : s.length ≤ 500) : openR (sealL k b s) = ⟨k, b, s, 0⟩ := by
  unfold openR
  rw [seal_n h2, seal_b h0 h1, seal_k, Int.toNat_natCast, seal_s, if_pos (by omega), if_pos]
  unfold sealR
  rw [if_pos ⟨h0, h1⟩, if_pos h2]
theorem sealR_ok {k : UInt8} {b : Int} {s : List UInt8} (h : (sealR k b s).2 = 0) : 0 ≤ b ∧ b ≤ 2147483647 ∧ s.length ≤ 500 ∧ (sealR k b s).1 = sealL k b s := by
  unfold sealR at h ⊢
  split at h
  · rename_i h1
    split at h
    · rename_i h2
      rw [if_pos h1, if_pos h2]
      exact ⟨h1.1, h1.2, h2, rfl⟩
    · simp at h
  · simp at h
theorem sealR_no {k : UInt8} {b : Int} {s : List UInt8} (h : (sealR k b s).2 ≠ 0) : (sealR k b s).1 = zB := by
  by_cases h1 : 0 ≤ b ∧ b ≤ 2147483647
  · by_cases h2 : s.length ≤ 500
    · exact absurd (by unfold sealR; rw [if_pos h1, if_pos h2]) h
    · unfold sealR; rw [if_pos h1, if_neg h2]
  · unfold sealR; rw [if_neg h1]

/-- The first example. -/
def ex1 : List UInt8 := sealL 2 7 [97, 98, 99]
theorem ex1_op : openR ex1 = ⟨2, 7, [97, 98, 99], 0⟩ := open_seal (k := 2) (b := 7) (s := [97, 98, 99]) (by omega) (by omega) (by simp)
theorem ex1_length : ex1.length = 512 := sealL_length (by decide)
theorem ex1_seal (w : World) : Calls Try.prog 11 #[.int .u8 2, .int .i64 7, .string ⟨#[97, 98, 99]⟩] w fun e w' => e = .returned (.tuple #[.agg (bvs ex1).toArray, .int .i64 0]) ∧ Below w.heap.size w w' :=
  seal_yes 2 7 [97, 98, 99] w (by decide) (by decide) (by decide)
theorem ex1_open (w : World) : Calls Try.prog 13 #[.agg (bvs ex1).toArray] w fun e w' => e = .returned (.tuple #[.int .u8 2, .int .i64 7, .string ⟨#[97, 98, 99]⟩, .int .i64 0]) ∧ Below w.heap.size w w' := by
  have h := open_any ex1 ex1_length w
  rw [ex1_op] at h
  exact h
theorem ex1_to (F : Int) (hF : fnv ex1 = F) (w : World) : Calls Try.prog 17 #[.int .i64 9, .agg (bvs ex1).toArray] w fun e w' => e = .returned (.tuple #[.agg #[.int .i64 9, .int .i64 7, .int .u64 F], .int .i64 0]) ∧ Below w.heap.size w w' := by
  have h := to_any 9 ex1 ex1_length w
  have e : toR 9 ex1 = (⟨9, 7, F⟩, 0) := by unfold toR; rw [ex1_op, if_pos rfl, if_pos (by omega), hF]
  rw [e] at h
  exact h
theorem ex1_check (F : Int) (hF : fnv ex1 = F) (w : World) : Calls Try.prog 19 #[.agg #[.int .i64 9, .int .i64 7, .int .u64 F], .agg (bvs ex1).toArray] w fun e w' => e = .returned (.tuple #[.int .u8 2, .string ⟨#[97, 98, 99]⟩, .int .i64 0]) ∧ Below w.heap.size w w' := by
  have h := check_any 9 7 F ex1 ex1_length w
  have e : ckR ⟨9, 7, F⟩ ex1 = ⟨2, [97, 98, 99], 0⟩ := by unfold ckR; rw [ex1_op, if_neg (by simp [hF]), if_neg (by simp), if_neg (by simp)]
  rw [e] at h
  exact h
theorem ex1_15 : ex1.take 15 = [106, 116, 116, 121, 2, 0, 0, 3, 0, 0, 0, 7, 97, 98, 99] := by decide +kernel
theorem ex1_a : ex1[15]? = some 0 := by decide +kernel
theorem ex1_b : ex1[511]? = some 0 := by decide +kernel

set_option maxHeartbeats 8000000 in
set_option maxRecDepth 100000 in
theorem awake_any (w : World) : Calls Try.prog 10 #[] w fun e w' => e = .returned (.bool true) ∧ Below w.heap.size w w' := by
  have hl := ex1_length
  have ks := Lib.hid ex1_seal
  have ko := Lib.hid ex1_open
  obtain ⟨F, hF⟩ : ∃ F, fnv ex1 = F := ⟨_, rfl⟩
  have kt := Lib.hid (ex1_to F hF)
  have kc := Lib.hid (ex1_check F hF)
  have e15 := Lib.hid ex1_15
  have ea := Lib.hid ex1_a
  have eb := Lib.hid ex1_b
  generalize ex1 = A at *
  have kS := Lib.hid (fun w => sum_any A hl w)
  rw [hF] at kS
  clear hF
  go_enter Try.func10, Try.ntmps10
  go_wp2_with fail
  refine (ks.out _).mono ?_
  rintro e w1 ⟨rfl, hb1⟩; have hz1 := hb1.size; (try simp only [World.size_alloc] at hz1)
  have b1 := heap_alloc_last w1 (.cells (bvs A).toArray 23)
  have st := st_blk (l := A) (heap_alloc_last w1 (.cells (bvs zB).toArray 23)) zB_length hl
  rw [World.setRow_alloc_new] at st
  have St := Lib.hid st
  have ld := Lib.hid (ld_blk b1 hl)
  have B1 := Lib.hid b1
  have X1 : Below w.heap.size w (w1.alloc (.cells (bvs A).toArray 23)) := by (repeat' (first | (with_reducible assumption) | (with_reducible exact Below.refl _ _) | (with_reducible refine below_sc ?_ ?_) | ((with_reducible show (_ : Nat) ≤ _); omega) | refine Below.setCell ?_ (by first | omega | (simp; done) | (simp; omega)) _ | refine Below.alloc ?_ (by first | omega | (simp; done) | (simp; omega)) _ | refine Below.drew ?_ | refine below_drewN ?_ _ | refine Below.trans ?_ (Below.mono (by assumption) (by first | omega | (simp; done) | (simp; omega)))))
  have hz := Nat.lt_of_lt_of_le (Nat.lt_succ_self w1.heap.size) (Nat.le_refl _)
  clear b1 st hb1
  go_wp2_with (first | (refine wpList_al rfl 23 rfl alloc_blk ?_; simp only [Act.put]) | (refine wpList_st rfl 23 (.tmp 1) (.tmp 14) rfl St.out ?_; simp only [Act.put]) | (refine wpList_ld rfl 23 (.tmp 1) rfl ld.out ?_; simp only [Act.put]))
  refine (ko.out _).mono ?_
  rintro e w2 ⟨rfl, hb2⟩; have hz2 := hb2.size; (try simp only [World.size_alloc] at hz2)
  have b2 := (hb2.block w1.heap.size (by simp)).trans B1.out
  have X2 : Below w.heap.size w w2 := X1.trans (hb2.mono X1.size)
  have ld2 := Lib.hid (ld_blk b2 hl)
  have B2 := Lib.hid b2
  have lt2 := (Array.getElem?_eq_some_iff.1 b2).1
  clear St ld B1 X1 hb2 b2 ks ko
  go_wp2_with (first | (refine wpList_ld rfl 23 (.tmp 1) rfl ld2.out ?_; simp only [Act.put]))
  refine (kt.out _).mono ?_
  rintro e w3 ⟨rfl, hb3⟩; have hz3 := hb3.size; (try simp only [World.size_alloc] at hz3)
  have x3 := Ext.trans hb3 (ext_alloc w3 (.cells #[.int .i64 9, .int .i64 7, .int .u64 F] 26))
  have b3 := (Below.block x3 w1.heap.size lt2).trans B2.out
  have X3 : Below w.heap.size w (w3.alloc (.cells #[.int .i64 9, .int .i64 7, .int .u64 F] 26)) := X2.trans (Below.mono x3 X2.size)
  have ld3 := Lib.hid (ld_blk b3 hl)
  have B3 := Lib.hid b3
  have lt3 := (Array.getElem?_eq_some_iff.1 b3).1
  have B7 := Lib.hid (heap_alloc_last w3 (.cells #[.int .i64 9, .int .i64 7, .int .u64 F] 26))
  clear hb3 x3 b3 ld2 B2 X2 kt
  go_wp2_with (first | (refine wpList_ld rfl 23 (.tmp 1) rfl ld3.out ?_; simp only [Act.put]))
  refine (kc.out _).mono ?_
  rintro e w4 ⟨rfl, hb4⟩; have hz4 := hb4.size; (try simp only [World.size_alloc] at hz4)
  have b4 := (hb4.block w1.heap.size lt3).trans B3.out
  have X4 : Below w.heap.size w w4 := X3.trans (hb4.mono X3.size)
  have b7 := (hb4.block w3.heap.size (by simp)).trans B7.out
  obtain ⟨c0, c1, c2, -, -, -, lt7⟩ := blk3 b7
  have lt4 := (Array.getElem?_eq_some_iff.1 b4).1
  have hld : ∀ w', (∃ e : ExtOf w4.heap.size w4, w' = e.val) → (Instr.loadAt 23 (.pointer (some ⟨w1.heap.size, 0, none⟩))).run Try.prog w' = .ok (.agg (bvs A).toArray) w' := by
    rintro _ ⟨e, rfl⟩
    exact ld_blk ((e.ok.block _ lt4).trans b4) hl
  have hcv : ∀ w', (∃ e : ExtOf w4.heap.size w4, w' = e.val) → (convert 43 9 (.slice (some ⟨w1.heap.size, 0, none⟩) 15 512)).run Try.prog w' = .ok (.string ⟨#[106, 116, 116, 121, 2, 0, 0, 3, 0, 0, 0, 7, 97, 98, 99]⟩) w' := by
    rintro _ ⟨e, rfl⟩
    have h := conv_rowAt (P := Try.prog) (w := e.val) (off := 0) (len := 15) (cap := 512) Try.underlying43 Try.underlying5 Try.underlying9 ((e.ok.block _ lt4).trans b4) (by omega)
    rw [List.drop_zero, e15.out] at h
    exact h
  have ca : w4.cell? ⟨w1.heap.size, 15, none⟩ = some (.int .u8 0) := by rw [cell_of_row _ _ _ _ _ _ b4]; simp [bvs, ea.out, bv]
  have cb : w4.cell? ⟨w1.heap.size, 511, none⟩ = some (.int .u8 0) := by rw [cell_of_row _ _ _ _ _ _ b4]; simp [bvs, eb.out, bv]
  have ex := fun (e : ExtOf w4.heap.size w4) k o (h : k < w4.heap.size) => ExtOf.cellB e k o h
  have Hld := Lib.hid hld
  have Hcv := Lib.hid hcv
  clear hld hcv b4 b7 hb4 X3 ld3 B3 B7 kc e15 ea eb hz1 hz2 hz3 hz4 hz
  go_wp2_with fail
  refine wp_region_ext w4.heap.size (by kernel_rfl) (by kernel_rfl) ?_
  simp only [List.append_eq, List.cons_append, List.nil_append]
  repeat (first | (go_big_quiet_want; refine quiet_ld 23 (.tmp 1) rfl Hld.out ?_; go_simp; go_big_quiet_on) | (go_big_quiet_want; refine quiet_cv 43 9 (.tmp 38) rfl Hcv.out ?_; go_simp; go_big_quiet_on) | go_big_quiet_step ((go_at_call 15; exact ext_of (Nat.le_refl _) (kS.out _))))
  refine wpQuiet_nil ?_
  rintro w5 ⟨⟨_, hb5⟩, rfl⟩
  go_wp2_with fail
  go_ret
  exact ⟨rfl, X4.trans (hb5.mono X4.size)⟩
end Go.Proofs.Ythoeklcgdbbbgaa
