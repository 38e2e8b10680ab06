/- Net: nobody's network and client. -/
import Derived.Test.YteahlnoonmfjhaaMq
set_option linter.unusedVariables false
set_option maxRecDepth 100000
namespace Go.Proofs.Yteahlnoonmfjhaa
open Go.RowKit

theorem nPlace_nil (a : Int) (w : World) : Calls Try.prog 50 #[.pointer none, .int .i64 a] w fun e w' => e = .returned (.tuple #[.int .i64 0, .int .i64 2]) ∧ Ext w w' := by
  go_enter Try.func50, Try.ntmps50
  go_wp2
  go_ret2
  exact ⟨rfl, Ext.refl _⟩
theorem nTake_nil (a : Int) (w : World) : Calls Try.prog 11 #[.pointer none, .int .i64 a] w fun e w' => e = .returned (.tuple #[.agg #[.int .i64 0, .bool false, .string ⟨#[]⟩], .int .i64 2]) ∧ Ext w w' := by
  have KP := Lib.hid (nPlace_nil a (w.alloc (.cells #[.int .i64 0, .bool false, .string ⟨#[]⟩] 25)))
  have HX := Lib.hid (extAl w (.cells #[.int .i64 0, .bool false, .string ⟨#[]⟩] 25))
  have HB := Lib.hid (heap_alloc_last w (.cells #[.int .i64 0, .bool false, .string ⟨#[]⟩] 25))
  go_enter Try.func11, Try.ntmps11
  go_upto_region 1 with fail
  generalize w.alloc (.cells #[.int .i64 0, .bool false, .string ⟨#[]⟩] 25) = w1 at *
  go_wp2_with fail
  refine KP.out.mono ?_
  rintro e w2 ⟨rfl, k2⟩
  have hb2 := (Below.block k2 _ (heap_lt HB.out)).trans HB.out
  have hs2 := storeAt_row (P := Try.prog) (ty := 25) (cs := #[.int .i64 0, .bool false, .string ⟨#[]⟩]) hb2 (by kernel_rfl) rfl (by simp [Value.oneCell'])
  have HS := Lib.hid hs2
  have HF := Lib.hid (setRow_heap w2 w.heap.size _ #[.int .i64 0, .bool false, .string ⟨#[]⟩] _ _ hb2)
  have HE : Hid (Ext w (w2.setRow w.heap.size #[.int .i64 0, .bool false, .string ⟨#[]⟩])) := Lib.hid (below_setRow (Ext.trans HX.out k2) (Nat.le_refl _) _)
  clear hs2 hb2 k2 KP
  go_wp2_with (refine wpList_st rfl 25 (.tmp 4) (.tmp 16) rfl HS.out ?_; simp only [Act.put])
  (try simp only [Exit.inBlock, Exit.then])
  exact bodyPost_ret (results_ctN Try.results11 _ _ _ _ _ _ _ rfl HF.out Try.underlying25 rfl (by kernel_rfl)) rfl ⟨rfl, HE.out⟩
theorem nLose_nil (a : Int) (w : World) : Calls Try.prog 16 #[.pointer none, .int .i64 a] w fun e w' => e = .returned (.int .i64 2) ∧ Ext w w' := by
  have KP := Lib.hid (nTake_nil a w)
  go_enter Try.func16, Try.ntmps16
  go_wp2_with fail
  refine KP.out.mono ?_
  rintro e w2 ⟨rfl, k2⟩
  have HE := Lib.hid (Ext.trans k2 (extAl w2 (.cells #[.int .i64 0, .bool false, .string ⟨#[]⟩] 25)))
  clear k2 KP
  go_wp2_with fail
  go_ret
  exact ⟨rfl, HE.out⟩
theorem nDouble_nil (a : Int) (w : World) : Calls Try.prog 17 #[.pointer none, .int .i64 a] w fun e w' => e = .returned (.int .i64 2) ∧ Ext w w' := by
  have KP := Lib.hid (nPlace_nil a w)
  go_enter Try.func17, Try.ntmps17
  go_wp2_with fail
  refine KP.out.mono ?_
  rintro e w2 ⟨rfl, k2⟩
  have HE := Lib.hid k2
  clear k2 KP
  go_wp2_with fail
  go_ret
  exact ⟨rfl, HE.out⟩
theorem nPut_nil (w : World) : Calls Try.prog 18 #[.pointer none, .agg #[.int .i64 0, .bool false, .string ⟨#[]⟩]] w fun e w' => e = .returned (.int .i64 2) ∧ Ext w w' := by
  go_enter Try.func18, Try.ntmps18
  go_wp2
  go_ret
  exact ⟨rfl, extAl _ _⟩
theorem nRow_nil (w : World) : Calls Try.prog 20 #[.pointer none] w fun e w' => e = .returned (.slice none 0 0) ∧ Ext w w' := by
  go_enter Try.func20, Try.ntmps20
  go_wp2
  go_ret
  exact ⟨rfl, Ext.refl _⟩
theorem nCopy_nil (w : World) : Calls Try.prog 21 #[.pointer none] w fun e w' => e = .returned (.pointer none) ∧ Ext w w' := by
  go_enter Try.func21, Try.ntmps21
  go_wp2
  go_ret
  exact ⟨rfl, Ext.refl _⟩
theorem cCall_nil (p : Int) (w : World) : Calls Try.prog 12 #[.pointer none, .int .i64 p, .agg #[.int .i64 0, .int .i64 0, .int .i64 0, .int .i64 0, .int .i64 0, .int .i64 0, .string ⟨#[]⟩, .string ⟨#[]⟩, .string ⟨#[]⟩, .int .i64 0, .int .i64 0, .int .i64 0, .int .i64 0, .int .i64 0, .int .i64 0, .int .u64 0]] w fun e w' => e = .returned (.tuple #[.string ⟨#[]⟩, .int .i64 2]) ∧ Ext w w' := by
  have HE := Lib.hid (extAl w (.cells #[.int .i64 0, .int .i64 0, .int .i64 0, .int .i64 0, .int .i64 0, .int .i64 0, .string ⟨#[]⟩, .string ⟨#[]⟩, .string ⟨#[]⟩, .int .i64 0, .int .i64 0, .int .i64 0, .int .i64 0, .int .i64 0, .int .i64 0, .int .u64 0] 35))
  go_enter Try.func12, Try.ntmps12
  go_wp2_with fail
  go_ret2
  exact ⟨rfl, HE.out⟩
theorem cAgain_nil (p : Int) (w : World) : Calls Try.prog 13 #[.pointer none, .int .i64 p] w fun e w' => e = .returned (.tuple #[.string ⟨#[]⟩, .int .i64 2]) ∧ Ext w w' := by
  go_enter Try.func13, Try.ntmps13
  go_wp2
  go_ret2
  exact ⟨rfl, Ext.refl _⟩
theorem cOpen_nil (w : World) : Calls Try.prog 22 #[.pointer none] w fun e w' => e = .returned (.slice none 0 0) ∧ Ext w w' := by
  go_enter Try.func22, Try.ntmps22
  go_wp2
  go_ret
  exact ⟨rfl, Ext.refl _⟩
theorem cCopy_nil (w : World) : Calls Try.prog 23 #[.pointer none] w fun e w' => e = .returned (.pointer none) ∧ Ext w w' := by
  go_enter Try.func23, Try.ntmps23
  go_wp2
  go_ret
  exact ⟨rfl, Ext.refl _⟩
theorem cHear_nil (S : ByteArray) (w : World) : Calls Try.prog 14 #[.pointer none, .string S] w fun e w' => e = .returned (.tuple #[.int .i64 0, .agg (rsC rs0 (.slice none 0 0)).toArray, .int .i64 2]) ∧ Ext w w' := by
  have HB := Lib.hid (heap_alloc_last w (.cells (rsC rs0 (.slice none 0 0)).toArray 41))
  have HX := Lib.hid (extAl w (.cells (rsC rs0 (.slice none 0 0)).toArray 41))
  have HW1 : Hid (w.alloc (.cells (rsC rs0 (.slice none 0 0)).toArray 41) = w.alloc (.cells #[.int .i64 0, .int .i64 0, .int .i64 0, .int .i64 0, .int .u8 0, .int .i64 0, .int .i64 0, .int .i64 0, .int .i64 0, .int .i64 0, .int .i64 0, .int .i64 0, .string ⟨#[]⟩, .int .i64 0, .int .i64 0, .int .u64 0, .bool false, .slice none 0 0, .int .u64 0] 41)) := Lib.hid rfl
  go_enter Try.func14, Try.ntmps14
  go_upto_region 1 with fail
  rw [← HW1.out]
  generalize w.alloc (.cells (rsC rs0 (.slice none 0 0)).toArray 41) = w1 at *
  have hs5 := storeRsZ HB.out
  have HS := Lib.hid hs5
  have HF := Lib.hid (setRow_heap w1 w.heap.size _ (rsC rs0 (.slice none 0 0)).toArray _ _ HB.out)
  have HE : Hid (Ext w (w1.setRow w.heap.size (rsC rs0 (.slice none 0 0)).toArray)) := Lib.hid (below_setRow HX.out (Nat.le_refl _) _)
  clear hs5
  go_wp2_with (refine wpList_st rfl 41 (.tmp 5) (.tmp 13) rfl HS.out ?_; simp only [Act.put])
  (try simp only [Exit.inBlock, Exit.then])
  exact bodyPost_ret (results_tct Try.results14 _ _ _ _ _ _ _ rfl HF.out Try.underlying41 rfl (by kernel_rfl)) rfl ⟨rfl, HE.out⟩
/-- A client behind k calls. -/
def c8 : Nat → Int × List Cl
  | 0 => (0, [])
  | k + 1 => ((callR 16 (c8 k).1 (c8 k).2 0 ag0).L, (callR 16 (c8 k).1 (c8 k).2 0 ag0).l)
theorem c8_ok : ∀ k, k < 8 → (callR 16 (c8 k).1 (c8 k).2 0 ag0).r.2 = 0 ∧ (c8 k).2.length = k ∧ (c8 k).1 = k := by decide +kernel
theorem c8_8 : (c8 8).2.length = 8 ∧ (c8 8).1 = 8 ∧ (callR 16 (c8 8).1 (c8 8).2 0 ag0).r = ([], 3) ∧ (callR 16 (c8 8).1 (c8 8).2 0 ag0).L = (c8 8).1 ∧ (callR 16 (c8 8).1 (c8 8).2 0 ag0).l = (c8 8).2 ∧ (callR 16 (c8 8).1 (c8 8).2 99 ag0).r = ([], 62) ∧ (callR 16 (c8 8).1 (c8 8).2 99 ag0).L = (c8 8).1 ∧ (callR 16 (c8 8).1 (c8 8).2 99 ag0).l = (c8 8).2 := by decide +kernel
def p16 : Pk := ⟨16, false, []⟩
theorem put16 (k : Nat) (h : k < 256) : putE (List.replicate k p16) p16 = 0 ∧ putN (List.replicate k p16) p16 = List.replicate (k + 1) p16 := by
  have h1 : putE (List.replicate k p16) p16 = 0 := by
    unfold putE
    rw [if_neg (by decide), if_neg (by decide), List.length_replicate, if_neg (by omega)]
  refine ⟨h1, ?_⟩
  unfold putN
  rw [if_pos h1, List.replicate_succ']
end Go.Proofs.Yteahlnoonmfjhaa
