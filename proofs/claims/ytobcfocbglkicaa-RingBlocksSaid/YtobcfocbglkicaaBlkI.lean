/- Plain laws of sealed blocks; the walk of awake. -/
import Derived.Test.YtobcfocbglkicaaBlkH
set_option linter.unusedVariables false
set_option maxRecDepth 100000
namespace Go.Proofs.Ytobcfocbglkicaa
open Go.RowKit

theorem nB_be2 {n : Int} (h0 : 0 ≤ n) (h1 : n < 65536) : nB [byteOf (n / 256), byteOf n] = n := by
  have a := byteOf_toNat (n / 256)
  have b := byteOf_toNat n
  simp only [nB, List.foldl_cons, List.foldl_nil]
  omega
theorem nB_be4 {n : Int} (h0 : 0 ≤ n) (h1 : n < 4294967296) : nB [byteOf (n / 16777216), byteOf (n / 65536), byteOf (n / 256), byteOf n] = n := by
  have a := byteOf_toNat (n / 256)
  have b := byteOf_toNat n
  have c := byteOf_toNat (n / 65536)
  have d := byteOf_toNat (n / 16777216)
  simp only [nB, List.foldl_cons, List.foldl_nil]
  omega
theorem seal_form (k : UInt8) (b : Int) (s : List UInt8) : sealL k b s = 106 :: 116 :: 116 :: 121 :: k :: 0 :: byteOf ((s.length : Int) / 256) :: byteOf s.length :: byteOf (b / 16777216) :: byteOf (b / 65536) :: byteOf (b / 256) :: byteOf b :: (s ++ List.replicate (500 - s.length) 0) := by
  unfold sealL pad
  have hl : (hdr k s.length b ++ s).length = 12 + s.length := by rw [List.length_append, hdr_length]
  rw [hl, show 512 - (12 + s.length) = 500 - s.length by omega]
  simp [hdr, jt, beN]
theorem seal_n {k : UInt8} {b : Int} {s : List UInt8} (h : s.length ≤ 500) : nAt (sealL k b s) 6 2 = s.length := by
  rw [seal_form]; exact nB_be2 (by omega) (by omega)
theorem seal_b {k : UInt8} {b : Int} {s : List UInt8} (h0 : 0 ≤ b) (h1 : b ≤ 2147483647) : nAt (sealL k b s) 8 4 = b := by
  rw [seal_form]; exact nB_be4 (by omega) (by omega)
theorem seal_k {k : UInt8} {b : Int} {s : List UInt8} : (sealL k b s).getD 4 0 = k := by rw [seal_form]; rfl
theorem seal_s {k : UInt8} {b : Int} {s : List UInt8} : ((sealL k b s).drop 12).take s.length = s := by
  rw [seal_form]
  show (s ++ List.replicate (500 - s.length) 0).take s.length = s
  rw [List.take_left' rfl]
/-- What was sealed is opened so. -/
theorem open_seal {k : UInt8} {b : Int} {s : List UInt8} (h0 : 0 ≤ b) (h1 : b ≤ 2147483647) (h2 : s.length ≤ 500) : openR (sealL k b s) = ⟨k, b, s, 0⟩ := by
  unfold openR
  rw [seal_n h2, seal_b h0 h1, seal_k, Int.toNat_natCast, seal_s, if_pos (by omega), if_pos]
  unfold sealR
  rw [if_pos ⟨h0, h1⟩, if_pos h2]
theorem sealR_ok {k : UInt8} {b : Int} {s : List UInt8} (h : (sealR k b s).2 = 0) : 0 ≤ b ∧ b ≤ 2147483647 ∧ s.length ≤ 500 ∧ (sealR k b s).1 = sealL k b s := by
  unfold sealR at h ⊢
  split at h
  · rename_i h1
    split at h
    · rename_i h2
      rw [if_pos h1, if_pos h2]
      exact ⟨h1.1, h1.2, h2, rfl⟩
    · simp at h
  · simp at h
theorem sealR_no {k : UInt8} {b : Int} {s : List UInt8} (h : (sealR k b s).2 ≠ 0) : (sealR k b s).1 = zB := by
  by_cases h1 : 0 ≤ b ∧ b ≤ 2147483647
  · by_cases h2 : s.length ≤ 500
    · exact absurd (by unfold sealR; rw [if_pos h1, if_pos h2]) h
    · unfold sealR; rw [if_pos h1, if_neg h2]
  · unfold sealR; rw [if_neg h1]

/-- The first example. -/
def ex1 : List UInt8 := sealL 2 7 [97, 98, 99]
theorem ex1_op : openR ex1 = ⟨2, 7, [97, 98, 99], 0⟩ := open_seal (k := 2) (b := 7) (s := [97, 98, 99]) (by omega) (by omega) (by simp)
theorem ex1_length : ex1.length = 512 := sealL_length (by decide)
theorem ex1_seal (w : World) : Calls Try.prog 49 #[.int .u8 2, .int .i64 7, .string ⟨#[97, 98, 99]⟩] w fun e w' => e = .returned (.tuple #[.agg (bvs ex1).toArray, .int .i64 0]) ∧ Below w.heap.size w w' :=
  seal_yes 2 7 [97, 98, 99] w (by decide) (by decide) (by decide)
theorem ex1_open (w : World) : Calls Try.prog 61 #[.agg (bvs ex1).toArray] w fun e w' => e = .returned (.tuple #[.int .u8 2, .int .i64 7, .string ⟨#[97, 98, 99]⟩, .int .i64 0]) ∧ Below w.heap.size w w' := by
  have h := open_any ex1 ex1_length w
  rw [ex1_op] at h
  exact h
theorem ex1_15 : ex1.take 15 = [106, 116, 116, 121, 2, 0, 0, 3, 0, 0, 0, 7, 97, 98, 99] := by decide +kernel
theorem ex1_a : ex1[15]? = some 0 := by decide +kernel
theorem ex1_b : ex1[511]? = some 0 := by decide +kernel

end Go.Proofs.Ytobcfocbglkicaa
