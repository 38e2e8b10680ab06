/- Walks of package block: Seal of what may be. -/
import Derived.Test.YtobcfocbglkicaaBlkB
import Derived.Deep.DeepCutAuto
set_option linter.unusedVariables false
set_option maxRecDepth 100000
namespace Go.Proofs.Ytobcfocbglkicaa
open Go.RowKit

theorem cp_row {w : World} {g o dLen dCap : Nat} {T : TypeId} {l s : List UInt8} {ty : TypeId} (hg : w.heap[g]? = some (.cells (bvs l).toArray T (0, 0))) (hle : s.length ≤ dLen) (hfit : o + s.length ≤ l.length) :
    (Builtin.copy_ #[38, 9] ty #[.slice (some ⟨g, o, none⟩) dLen dCap, .string (str s)]).run Try.prog w = .ok (goInt s.length) (w.setRow g (bvs (l.take o ++ s ++ l.drop (o + s.length))).toArray) := by
  have h := Lib.run_copy_row_string (P := Try.prog) w 38 9 ty 5 g o dLen dCap (str s) (bvs l).toArray T Try.underlying38 (by kernel_rfl) hg (by rw [str_size]; exact hle) (by rw [str_size, bvs_size]; exact hfit)
  rw [str_size] at h
  rw [h]
  congr 3
  simp [bvs, str]
  rfl

theorem seal_steps (k : UInt8) (b : Int) (s : List UInt8) (h : s.length ≤ 500) :
    (putC (putC ((zB.take 0 ++ jt ++ zB.drop (0 + jt.length)).set 4 k) 6 2 s.length 2) 8 4 b 4).take 12 ++ s ++ (putC (putC ((zB.take 0 ++ jt ++ zB.drop (0 + jt.length)).set 4 k) 6 2 s.length 2) 8 4 b 4).drop (12 + s.length) = sealL k b s := by
  have hz : zB = [0, 0, 0, 0, 0, 0, 0, 0, 0, 0, 0, 0] ++ List.replicate 500 0 := by rfl
  have h2 : beN (s.length : Int) 2 = [byteOf ((s.length : Int) / 2 ^ 8), byteOf ((s.length : Int) / 2 ^ 0)] := rfl
  have h4 : beN b 4 = [byteOf (b / 2 ^ 24), byteOf (b / 2 ^ 16), byteOf (b / 2 ^ 8), byteOf (b / 2 ^ 0)] := rfl
  unfold sealL pad hdr putC
  rw [hz, h2, h4]
  simp only [jt, List.take_zero, List.nil_append, List.length_cons, List.length_nil, List.cons_append, List.drop_succ_cons, List.drop_zero, List.set_cons_succ, List.set_cons_zero, List.take_succ_cons, Nat.zero_add, Nat.reduceAdd, Nat.reduceSub]
  rw [show 12 + s.length = s.length + 12 by omega]
  simp only [List.drop_succ_cons, List.drop_replicate]
  congr 14
  omega

set_option maxHeartbeats 4000000 in
set_option maxRecDepth 100000 in
theorem seal_yes (k : UInt8) (b : Int) (s : List UInt8) (w : World) (h0 : 0 ≤ b) (h1 : b ≤ 2147483647) (h2 : s.length ≤ 500) :
    Calls Try.prog 49 #[.int .u8 k.toNat, .int .i64 b, .string (str s)] w fun e w' => e = .returned (.tuple #[.agg (bvs (sealL k b s)).toArray, .int .i64 0]) ∧ Below w.heap.size w w' := by
  have hs := str_size s
  have hk := k.toNat_lt
  have hR := Lib.hid (seal_steps k b s h2)
  have lR := sealL_length (k := k) (b := b) h2
  go_enter Try.func49, Try.ntmps49
  go_upto_region 6 with (first | (refine wpList_al rfl 25 rfl alloc_blk ?_; simp only [Act.put]))
  have hB : Below w.heap.size w ((w.alloc (.cells (bvs zB).toArray 25)).alloc (.cells (bvs zB).toArray 25)) := by (repeat' (first | (with_reducible assumption) | (with_reducible exact Below.refl _ _) | (with_reducible refine below_sc ?_ ?_) | ((with_reducible show (_ : Nat) ≤ _); omega) | refine Below.setCell ?_ (by first | omega | (simp; done) | (simp; omega)) _ | refine Below.alloc ?_ (by first | omega | (simp; done) | (simp; omega)) _ | refine Below.drew ?_ | refine below_drewN ?_ _ | refine Below.trans ?_ (Below.mono (by assumption) (by first | omega | (simp; done) | (simp; omega)))))
  have b6 := Lib.hid (heap_alloc2_old w (.cells (bvs zB).toArray 25) (.cells (bvs zB).toArray 25))
  have b8 := heap_alloc2_new w (.cells (bvs zB).toArray 25) (.cells (bvs zB).toArray 25)
  simp only [World.size_alloc]
  generalize (w.alloc (.cells (bvs zB).toArray 25)).alloc (.cells (bvs zB).toArray 25) = W at *
  have c1 := Lib.hid (cp_row (ty := 3) (o := 0) (dLen := 512) (dCap := 512) (s := jt) b8 (by decide) (by rw [zB_length]; decide))
  have e1 : ∃ L, L = zB.take 0 ++ jt ++ zB.drop (0 + jt.length) := ⟨_, rfl⟩
  obtain ⟨L1, hL1⟩ := e1
  have l1 : L1.length = 512 := by rw [hL1]; rfl
  have hL2 : ∃ L, L = L1.set 4 k := ⟨_, rfl⟩
  obtain ⟨L2, hL2⟩ := hL2
  have l2 : L2.length = 512 := by rw [hL2, List.length_set, l1]
  rw [← hL1, ← hL2] at hR
  rw [← hL1] at c1
  have hL3 : ∃ L, L = putC L2 6 2 s.length 2 := ⟨_, rfl⟩
  obtain ⟨L3, hL3⟩ := hL3
  have l3 : L3.length = 512 := by rw [hL3, putC_length _ (by omega) (by omega), l2]
  have hL4 : ∃ L, L = putC L3 8 4 b 4 := ⟨_, rfl⟩
  obtain ⟨L4, hL4⟩ := hL4
  have l4 : L4.length = 512 := by rw [hL4, putC_length _ (by omega) (by omega), l3]
  rw [← hL3, ← hL4] at hR
  have g1 := Lib.hid (setRow_heap W (w.heap.size + 1) _ (bvs L1).toArray _ _ b8)
  have g2 := Lib.hid (setRow_heap W (w.heap.size + 1) _ (bvs L2).toArray _ _ b8)
  have g3 := Lib.hid (setRow_heap W (w.heap.size + 1) _ (bvs L3).toArray _ _ b8)
  have g4 := Lib.hid (setRow_heap W (w.heap.size + 1) _ (bvs L4).toArray _ _ b8)
  have g5 := Lib.hid (setRow_heap W (w.heap.size + 1) _ (bvs (sealL k b s)).toArray _ _ b8)
  have cell4 : (W.setRow (w.heap.size + 1) (bvs L1).toArray).cell? ⟨w.heap.size + 1, 4, none⟩ = some (bv (L1[4]'(by omega))) := by
    rw [cell_of_row _ _ _ _ _ _ g1.out]; simpa using bvs_get (l := L1) (i := 4) (by omega)
  have fro4 : (W.setRow (w.heap.size + 1) (bvs L1).toArray).frozen? ⟨w.heap.size + 1, 4, none⟩ = false := by simp [World.frozen?, g1.out]
  have set4 : (W.setRow (w.heap.size + 1) (bvs L1).toArray).setCell ⟨w.heap.size + 1, 4, none⟩ (.int .u8 (k.toNat : Int)) = W.setRow (w.heap.size + 1) (bvs L2).toArray := by
    rw [hL2]; exact setRow_store b8 k
  have hL3' := Lib.hid hL3
  have hL4' := Lib.hid hL4
  clear hL1 hL2 hL3 hL4
  go_wp2_with (refine Lib.wpList_copy_run _ rfl (.tmp 20) (.const (.string ⟨#[106, 116, 116, 121]⟩)) 38 9 rfl _ _ rfl rfl c1.out ?_; simp only [Act.put])
  refine (put_any 25 L2 _ 6 2 506 s.length _ g2.out (by omega) (by omega) (by omega) (by omega) (by omega) (by omega)).mono ?_
  rintro e w' ⟨rfl, rfl⟩
  rw [setRow_setRow, ← hL3'.out]
  clear cell4 fro4 set4 c1 g1 g2
  go_wp2_with fail
  refine (put_any 25 L3 _ 8 4 504 b _ g3.out (by omega) (by omega) (by omega) (by omega) (by omega) (by omega)).mono ?_
  rintro e w' ⟨rfl, rfl⟩
  rw [setRow_setRow, ← hL4'.out]
  have c2 := cp_row (ty := 3) (o := 12) (dLen := 500) (dCap := 500) (s := s) g4.out (by omega) (by omega)
  rw [setRow_setRow, hR.out] at c2
  have C2 := Lib.hid c2
  clear c2 hL3' hL4' hR g3
  have ld := Lib.hid (ld_blk g5.out lR)
  have k6 := (setRow_other W (w.heap.size + 1) w.heap.size (bvs (sealL k b s)).toArray (by omega)).trans b6.out
  have st := Lib.hid (st_blk k6 zB_length lR)
  have k6' := Lib.hid (setRow_heap (W.setRow (w.heap.size + 1) (bvs (sealL k b s)).toArray) w.heap.size _ (bvs (sealL k b s)).toArray _ _ k6)
  have hB' := below_setRow (below_setRow hB (g := w.heap.size + 1) (by omega) (bvs (sealL k b s)).toArray) (g := w.heap.size) (Nat.le_refl _) (bvs (sealL k b s)).toArray
  clear k6
  go_wp2_with (first | (refine Lib.wpList_copy_run _ rfl (.tmp 33) (.tmp 34) 38 9 rfl _ _ rfl rfl C2.out ?_; simp only [Act.put]) | (refine wpList_ld rfl 25 (.tmp 8) rfl ld.out ?_; simp only [Act.put]) | (refine wpList_st rfl 25 (.tmp 6) (.tmp 36) rfl st.out ?_; simp only [Act.put]))
  exact bodyPost_ret (results_cell_tmp Try.results49 _ _ _ _ _ _ _ rfl k6'.out Try.underlying25 rfl (by rw [info_blk, bvs_size, lR])) rfl ⟨rfl, hB'⟩

theorem seal_any (k : UInt8) (b : Int) (s : List UInt8) (w : World) (hl : s.length ≤ maxLen) :
    Calls Try.prog 49 #[.int .u8 k.toNat, .int .i64 b, .string (str s)] w fun e w' => e = .returned (bkV (sealR k b s)) ∧ Below w.heap.size w w' := by
  by_cases h : (sealR k b s).2 = 0
  · unfold sealR at h ⊢
    split at h
    · rename_i h1
      split at h
      · rename_i h2
        rw [if_pos h1, if_pos h2]
        exact seal_yes k b s w h1.1 h1.2 h2
      · simp at h
    · simp at h
  · exact seal_no k b s w h hl
end Go.Proofs.Ytobcfocbglkicaa
