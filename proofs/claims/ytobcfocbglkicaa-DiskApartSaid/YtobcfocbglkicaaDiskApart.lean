/- Proved: DiskApart returns true whatever writes ahead and behind, whether it is flushed, and whatever list of truth values it is called with, and each argument reads behind the call as before. No condition. -/
import Derived.Test.YtobcfocbglkicaaDkW
import Derived.Test.YtobcfocbglkicaaDkN
import Derived.Test.YtobcfocbglkicaaDkQ
import Derived.Test.YtobcfocbglkicaaLift
import Derived.Deep.DeepCutAuto
set_option linter.unusedVariables false
set_option maxRecDepth 100000
namespace Go.Proofs.Ytobcfocbglkicaa.diskApart
open Go.RowKit Go.ChangeShapes Go.WideShapes Go.ChangeAt Go.Deep Go.Proofs.Ytobcfocbglkicaa
attribute [local go_sem ↓] neq_blk eql_blk

set_option maxHeartbeats 16000000 in
theorem walk {w : World} (vl : Value) (l : List UInt8) (hl : RS w vl l) (hlm : l.length ≤ maxLen) (vm : Value) (m : List UInt8) (hm : RS w vm m) (hmm : m.length ≤ maxLen) (fl : Bool) (vk : Value) (keep : List Bool) (hk : RBo w vk keep) (hkm0 : (∀ b off n c, vk = .slice (some ⟨b, off, none⟩) n c → b < w.heap.size) ∧ keep.length ≤ maxLen) :
    Calls Try.prog 9 #[vl, vm, .bool fl, vk] w fun e w' => e = .returned (.bool true) ∧ Below w.heap.size w w' := by
  obtain ⟨hkb, hkm⟩ := hkm0
  clear hkb
  unfold maxLen at hlm hmm hkm
  obtain ⟨A, c, rfl, hcell⟩ := hl.at (Ext.refl w)
  obtain ⟨A2, c2, rfl, hcell2⟩ := hm.at (Ext.refl w)
  obtain ⟨kA, kc, rfl⟩ := hk.form
  by_cases g1 : 200 < l.length
  · skip
    go_enter Try.func9, Try.ntmps9
    go_wp2_with fail
    refine (new_l (St.start w) 64 (by omega) (by omega)).mono ?_
    rintro e w1 ⟨g0, rfl, h1⟩
    go_wp2_with fail
    refine (dworks_any _).mono ?_
    rintro e w2 ⟨rfl, k2⟩
    go_wp2_with fail
    refine (dworks_any _).mono ?_
    rintro e w3 ⟨rfl, k3⟩
    go_wp2_with fail
    go_ret
    exact ⟨rfl, ((h1.ext k2).ext k3).bel⟩
  by_cases g2 : 200 < m.length
  · skip
    go_enter Try.func9, Try.ntmps9
    go_wp2_with fail
    refine (new_l (St.start w) 64 (by omega) (by omega)).mono ?_
    rintro e w1 ⟨g0, rfl, h1⟩
    go_wp2_with fail
    refine (dworks_any _).mono ?_
    rintro e w2 ⟨rfl, k2⟩
    go_wp2_with fail
    refine (dworks_any _).mono ?_
    rintro e w3 ⟨rfl, k3⟩
    go_wp2_with fail
    go_ret
    exact ⟨rfl, ((h1.ext k2).ext k3).bel⟩
  by_cases g3 : 400 < keep.length
  · skip
    go_enter Try.func9, Try.ntmps9
    go_wp2_with fail
    refine (new_l (St.start w) 64 (by omega) (by omega)).mono ?_
    rintro e w1 ⟨g0, rfl, h1⟩
    go_wp2_with fail
    refine (dworks_any _).mono ?_
    rintro e w2 ⟨rfl, k2⟩
    go_wp2_with fail
    refine (dworks_any _).mono ?_
    rintro e w3 ⟨rfl, k3⟩
    go_wp2_with fail
    go_ret
    exact ⟨rfl, ((h1.ext k2).ext k3).bel⟩
  have b1 : decide ((200 : Int) < (l.length : Int)) = false := by rw [decide_eq_false_iff_not]; omega
  have b2 : decide ((200 : Int) < (m.length : Int)) = false := by rw [decide_eq_false_iff_not]; omega
  have b3 : decide ((400 : Int) < (keep.length : Int)) = false := by rw [decide_eq_false_iff_not]; omega
  have Hc := Lib.hid hcell
  have Hc2 := Lib.hid hcell2
  have Hk := Lib.hid hk
  clear hl hm hk hcell hcell2
  go_enter Try.func9, Try.ntmps9
  go_wp2_with fail
  refine (new_l (St.start w) 64 (by omega) (by omega)).mono ?_
  rintro e w1 ⟨g, rfl, h1⟩
  go_wp2_with fail
  refine (dworks_any _).mono ?_
  rintro e w2 ⟨rfl, k2⟩
  have h3 := (h1.ext k2).alloc (.cells (bvs zA).toArray 70 (0, 0))
  replace h3 : St w [(w2.heap.size, .cells (bvs zA).toArray 70 (0, 0))] [(g, ⟨64, [], [], 0, [], false⟩)] _ := h3
  have H3 := Lib.hid h3
  clear h1 h3 k2
  go_upto_region 5 with (refine wpList_al rfl 70 rfl alloc_70 ?_; simp only [Act.put])
  try simp only [List.setIfInBounds_toArray, List.set_cons_zero, List.set_cons_succ]
  generalize w2.alloc (.cells (bvs zA).toArray 70) = V3 at *
  generalize w2.heap.size = gw at *
  go_wp2_with fail
  go_loopw [12] (fun i wr => ∃ j : Nat, j ≤ l.length ∧ i = .int .i64 j ∧ ∃ wt L, wt.length = j ∧ Arrs wt L ∧ Hid (St w [(gw, .cells (bvs L).toArray 70 (0, 0))] [(g, ⟨64, [], wt, 0, [], false⟩)] wr)) (fun i _ => l.length - (intOf i).toNat)
  case atStart => exact ⟨0, Nat.zero_le _, rfl, [], zA, rfl, arrs_zero, H3⟩
  case round =>
    clear H3
    obtain ⟨j, hj, rfl, wt, L, hwt, hL, H⟩ := hrel
    by_cases hjl : j < l.length
    · obtain ⟨b, off, rfl, hlc, hlt, hcell⟩ := Hc.out j hjl
      obtain ⟨z, hz, hz4⟩ : ∃ z : Nat, (l[j].toNat : Int) % 64 = (z : Int) ∧ z < 64 := ⟨l[j].toNat % 64, by omega, by omega⟩
      unfold bv at hcell
      go_wp2_with fail
      have e1 : ∀ ψ (e : ExtP wr.heap.size wr ψ), e.val.cell? ⟨b, off + j, none⟩ = some (.int .u8 (l[j].toNat : Int)) := fun ψ e => e.cell ((Below.cell (p := ⟨b, off + j, none⟩) H.out.bel hlt).trans hcell) (Nat.lt_of_lt_of_le hlt (Below.size H.out.bel))
      refine wp_region_pieces 12  [(true, [0, 1, 2, 3, 4, 5, 6, 7, 8, 9, 10, 11])] (by kernel_rfl) (by kernel_rfl) ?_; simp only [pick, List.map_cons, List.map_nil, List.flatMap_cons, List.flatMap_nil, Option.toList_some, List.singleton_append, List.drop_succ_cons, List.drop_zero, List.getElem?_cons_zero, List.getElem?_cons_succ]
      refine ⟨by kernel_rfl, ?_⟩; apply Exists.intro; refine ⟨fun ψ hψ hne => (by (repeat (first | ( fail ) | go_big_quiet_step ((  go_at_call 27; exact extP_of hψ (Nat.le_refl _) (block_any l[j] _ rfl _) )))); exact wpQuiet_nil rfl), ?_⟩
      intro V hV
      clear e1
      go_wp2_with fail
      refine (write_k 0 (H.out.ext hV) rfl _ (blkC_length _) _ _ (DK.write_go (by omega) (by omega)) (by simp) (by dsimp only; omega)).mono ?_
      rintro e w4 ⟨rfl, h4⟩
      replace h4 : St w [(gw, .cells (bvs L).toArray 70 (0, 0))] [(g, ⟨64, [], wt ++ [((z : Int), blkC l[j])], 0, [], false⟩)] w4 := h4
      go_wp2_with fail
      have e1 : ∀ ψ (e : ExtP w4.heap.size w4 ψ), e.val.cell? ⟨b, off + j, none⟩ = some (.int .u8 (l[j].toNat : Int)) := fun ψ e => e.cell ((Below.cell (p := ⟨b, off + j, none⟩) h4.bel hlt).trans hcell) (Nat.lt_of_lt_of_le hlt (Below.size h4.bel))
      refine wp_region_pieces 11  [(true, [0, 1, 2, 3, 4, 5, 6, 7, 8, 9, 10])] (by kernel_rfl) (by kernel_rfl) ?_; simp only [pick, List.map_cons, List.map_nil, List.flatMap_cons, List.flatMap_nil, Option.toList_some, List.singleton_append, List.drop_succ_cons, List.drop_zero, List.getElem?_cons_zero, List.getElem?_cons_succ]
      refine ⟨by kernel_rfl, ?_⟩; apply Exists.intro; refine ⟨fun ψ hψ hne => (by (repeat (first | ( fail ) | go_big_quiet_step ((  go_at_call 27; exact extP_of hψ (Nat.le_refl _) (block_any l[j] _ rfl _) )))); exact wpQuiet_nil rfl), ?_⟩
      intro V4 hV4
      clear e1
      obtain ⟨hs, h5⟩ := (h4.ext hV4).blk 0 rfl hL.len hz4 (blkC_length l[j])
      replace h5 : St w [(gw, .cells (bvs (updB L z (blkC l[j]))).toArray 70 (0, 0))] [(g, ⟨64, [], wt ++ [((z : Int), blkC l[j])], 0, [], false⟩)] _ := h5
      have ST := Lib.hid hs
      have H5 := Lib.hid h5
      clear hs h5 h4 hV4
      go_wp2_with (refine wpList_st rfl 25 (.tmp 74) (.tmp 73) rfl ST.out ?_; simp only [Act.put])
      go_roundw
      case rel => exact ⟨j + 1, hjl, by simp, wt ++ [((z : Int), blkC l[j])], updB L z (blkC l[j]), by rw [List.length_append, List.length_singleton, hwt], hL.upd hz4 (blkC_length _), H5⟩
      case measure => first | (simp [intOf]; done) | (simp [intOf]; omega)
    · obtain rfl : j = l.length := by omega
      clear Hc
      go_wp2_with fail
      refine (copy_l 0 H.out rfl (by simp) (by dsimp only; omega)).mono ?_
      rintro e w3 ⟨gc, rfl, h3⟩
      replace h3 : St w [(gw, .cells (bvs L).toArray 70 (0, 0))] [(gc, ⟨64, [], wt ++ [], 0, [], false⟩), (g, ⟨64, [], wt, 0, [], false⟩)] w3 := by rw [List.append_nil]; exact h3
      have H3 := Lib.hid h3
      clear h3 H
      go_wp2_with fail
      go_loopw [14] (fun i wr => ∃ j : Nat, j ≤ m.length ∧ i = .int .i64 j ∧ ∃ w2, w2.length = j ∧ Hid (St w [(gw, .cells (bvs L).toArray 70 (0, 0))] [(gc, ⟨64, [], wt ++ w2, 0, [], false⟩), (g, ⟨64, [], wt, 0, [], false⟩)] wr)) (fun i _ => m.length - (intOf i).toNat)
      case atStart => exact ⟨0, Nat.zero_le _, rfl, [], rfl, H3⟩
      case round =>
        clear H3
        obtain ⟨j, hj, rfl, w2, hw2, H⟩ := hrel
        by_cases hjl : j < m.length
        · obtain ⟨b, off, rfl, hlc, hlt, hcell⟩ := Hc2.out j hjl
          have hz0 : 0 ≤ (m[j].toNat : Int) % 64 := by omega
          have hz1 : (m[j].toNat : Int) % 64 < 64 := by omega
          unfold bv at hcell
          go_wp2_with fail
          have e1 : ∀ ψ (e : ExtP wr.heap.size wr ψ), e.val.cell? ⟨b, off + j, none⟩ = some (.int .u8 (m[j].toNat : Int)) := fun ψ e => e.cell ((Below.cell (p := ⟨b, off + j, none⟩) H.out.bel hlt).trans hcell) (Nat.lt_of_lt_of_le hlt (Below.size H.out.bel))
          refine wp_region_pieces 13  [(true, [0, 1, 2, 3, 4, 5, 6, 7, 8, 9, 10, 11, 12])] (by kernel_rfl) (by kernel_rfl) ?_; simp only [pick, List.map_cons, List.map_nil, List.flatMap_cons, List.flatMap_nil, Option.toList_some, List.singleton_append, List.drop_succ_cons, List.drop_zero, List.getElem?_cons_zero, List.getElem?_cons_succ]
          refine ⟨by kernel_rfl, ?_⟩; apply Exists.intro; refine ⟨fun ψ hψ hne => (by (repeat (first | ( fail ) | go_big_quiet_step ((  go_at_call 27; exact extP_of hψ (Nat.le_refl _) (block_any (m[j] + 1) _ (by exact u8_add m[j] 1) _) )))); exact wpQuiet_nil rfl), ?_⟩
          intro V hV
          clear e1
          go_wp2_with fail
          refine (write_k 0 (H.out.ext hV) rfl _ (blkC_length _) _ _ (DK.write_go hz0 hz1) (by simp) (by dsimp only; rw [List.length_append]; omega)).mono ?_
          rintro e w4 ⟨rfl, h4⟩
          replace h4 : St w [(gw, .cells (bvs L).toArray 70 (0, 0))] [(gc, ⟨64, [], wt ++ (w2 ++ [((m[j].toNat : Int) % 64, blkC (m[j] + 1))]), 0, [], false⟩), (g, ⟨64, [], wt, 0, [], false⟩)] w4 := by rw [← List.append_assoc]; exact h4
          go_wp2_with fail
          go_roundw
          case rel => exact ⟨j + 1, hjl, by simp, w2 ++ [((m[j].toNat : Int) % 64, blkC (m[j] + 1))], by rw [List.length_append, List.length_singleton, hw2], Lib.hid h4⟩
          case measure => first | (simp [intOf]; done) | (simp [intOf]; omega)
        · have hl2 : (wt ++ w2).length ≤ 1000 := by rw [List.length_append]; omega
          have h4 := H.out
          generalize wt ++ w2 = wc at *
          clear Hc2 H
          cases fl with
          | true =>
            go_wp2_with fail
            refine (flush_k 0 h4 rfl _ _ DK.flush_go (by simp) (by dsimp only; omega)).mono ?_
            rintro e w5 ⟨rfl, h5⟩
            clear h4
            go_wp2_with fail
            refine (fail_k 0 h5 rfl keep (Hk.out.ext h5.bel) _ _ DK.fail_go (by omega) (by first | (simp; done) | (dsimp only; omega))).mono ?_
            rintro e w6 ⟨rfl, h6⟩
            go_wp2_with fail
            refine (dead_k 0 h6 rfl true rfl).mono ?_
            rintro e w7 ⟨rfl, h7⟩
            go_wp2_with fail
            refine (dead_k 1 h7 rfl false rfl).mono ?_
            rintro e w8 ⟨rfl, h8⟩
            go_wp2_with fail
            refine (waiting_k 1 h8 rfl (l.length : Int) (by rw [← hwt])).mono ?_
            rintro e w9 ⟨rfl, h9⟩
            replace h9 := h9.dropI 0
            replace h9 : St w [(gw, .cells (bvs L).toArray 70 (0, 0))] [(g, ⟨64, [], wt, 0, [], false⟩)] w9 := h9
            have H9 := Lib.hid h9
            clear h5 h6 h7 h8 h9
            go_wp2_with fail
            go_loopw [15] (fun i wr => ∃ j : Nat, j ≤ 64 ∧ i = .int .i64 j ∧ Hid (St w [(gw, .cells (bvs L).toArray 70 (0, 0))] [(g, ⟨64, [], wt, 0, [], false⟩)] wr)) (fun i _ => 64 - (intOf i).toNat)
            case atStart => exact ⟨0, by omega, rfl, H9⟩
            case round =>
              clear H9
              obtain ⟨j, hj, rfl, H⟩ := hrel
              by_cases hj4 : j < 64
              · have lB := blkAt_length hL.len hj4
                have hr : DK.read ⟨64, [], wt, 0, [], false⟩ (j : Int) = (blkAt L j, 0) := by rw [← hL.is j hj4]; exact DK.read_go (by omega) (by omega)
                obtain ⟨B, hB⟩ : ∃ B, B = blkAt L j := ⟨_, rfl⟩
                rw [← hB] at hr lB
                have HR := Lib.hid hr
                have HB := Lib.hid hB
                clear hr hB
                go_wp2_with fail
                refine (read_e 0 H.out rfl _ B 0 HR.out (by dsimp only; omega)).mono ?_
                rintro e w10 ⟨rfl, h10, -⟩
                have ST := Lib.hid (st_blkn B lB w10)
                replace h10 := h10.ext (extAl w10 (.cells (bvs B).toArray 25))
                have B1 := Lib.hid (heap_alloc_last w10 (.cells (bvs B).toArray 25))
                go_upto_region 23 with (first | (refine wpList_al rfl 25 rfl alloc_blk ?_; simp only [Act.put]) | (refine wpList_st rfl 25 _ _ rfl ST.out ?_; simp only [Act.put]))
                try simp only [List.setIfInBounds_toArray, List.set_cons_zero, List.set_cons_succ]
                generalize w10.alloc (.cells (bvs B).toArray 25) = V1 at *
                generalize w10.heap.size = gx at *
                clear ST
                have L1 := Lib.hid fun V2 (k : Ext V1 V2) => ld_blk ((Below.block k gx (Array.getElem?_eq_some_iff.1 B1.out).1).trans B1.out) lB
                have L2 : Hid (∀ V2, Ext V1 V2 → (Instr.loadAt 25 (.pointer (some ⟨gw, j * 512, none⟩))).run Try.prog V2 = .ok (.agg (bvs B).toArray) V2) := Lib.hid fun V2 k => by rw [HB.out]; exact (h10.ext k).blkld 0 rfl hL.len hj4
                have H10 := Lib.hid h10
                have q : eqB B B = true := by simp [eqB]
                clear h10 B1 HB HR H
                refine wp_region_pieces 9  [(true, [0, 1, 2, 3, 4, 5, 6, 7, 8])] (by kernel_rfl) (by kernel_rfl) ?_; simp only [pick, List.map_cons, List.map_nil, List.flatMap_cons, List.flatMap_nil, Option.toList_some, List.singleton_append, List.drop_succ_cons, List.drop_zero, List.getElem?_cons_zero, List.getElem?_cons_succ]
                refine ⟨by kernel_rfl, ?_⟩; apply Exists.intro; refine ⟨fun ψ hψ hne => (by (repeat (first | ( first | (go_big_quiet_want; refine quiet_ld 25 (.tmp 16) rfl (fun w' hw' => L1.out w' (ext_in hw')) ?_; go_simp; go_big_quiet_on) | (go_big_quiet_want; refine quiet_ld 25 (.tmp 141) rfl (fun w' hw' => L2.out w' (ext_in hw')) ?_; go_simp; go_big_quiet_on) ) | go_big_quiet_step ((  fail )))); exact wpQuiet_nil rfl), ?_⟩
                intro V2 hV2
                go_wp2_with fail
                go_roundw
                case rel => exact ⟨j + 1, by omega, by simp, Lib.hid (H10.out.ext hV2)⟩
                case measure => simp [intOf]; omega
              · go_wp2_with fail
                refine (blocks_l 0 H.out rfl).mono ?_
                rintro e w11 ⟨rfl, h11⟩
                go_wp2_with fail
                go_ret
                exact ⟨rfl, h11.bel⟩
          | false =>
            have h5 := h4
            clear h4
            go_wp2_with fail
            refine (fail_k 0 h5 rfl keep (Hk.out.ext h5.bel) _ _ DK.fail_go (by omega) (by first | (simp; done) | (dsimp only; omega))).mono ?_
            rintro e w6 ⟨rfl, h6⟩
            go_wp2_with fail
            refine (dead_k 0 h6 rfl true rfl).mono ?_
            rintro e w7 ⟨rfl, h7⟩
            go_wp2_with fail
            refine (dead_k 1 h7 rfl false rfl).mono ?_
            rintro e w8 ⟨rfl, h8⟩
            go_wp2_with fail
            refine (waiting_k 1 h8 rfl (l.length : Int) (by rw [← hwt])).mono ?_
            rintro e w9 ⟨rfl, h9⟩
            replace h9 := h9.dropI 0
            replace h9 : St w [(gw, .cells (bvs L).toArray 70 (0, 0))] [(g, ⟨64, [], wt, 0, [], false⟩)] w9 := h9
            have H9 := Lib.hid h9
            clear h5 h6 h7 h8 h9
            go_wp2_with fail
            go_loopw [15] (fun i wr => ∃ j : Nat, j ≤ 64 ∧ i = .int .i64 j ∧ Hid (St w [(gw, .cells (bvs L).toArray 70 (0, 0))] [(g, ⟨64, [], wt, 0, [], false⟩)] wr)) (fun i _ => 64 - (intOf i).toNat)
            case atStart => exact ⟨0, by omega, rfl, H9⟩
            case round =>
              clear H9
              obtain ⟨j, hj, rfl, H⟩ := hrel
              by_cases hj4 : j < 64
              · have lB := blkAt_length hL.len hj4
                have hr : DK.read ⟨64, [], wt, 0, [], false⟩ (j : Int) = (blkAt L j, 0) := by rw [← hL.is j hj4]; exact DK.read_go (by omega) (by omega)
                obtain ⟨B, hB⟩ : ∃ B, B = blkAt L j := ⟨_, rfl⟩
                rw [← hB] at hr lB
                have HR := Lib.hid hr
                have HB := Lib.hid hB
                clear hr hB
                go_wp2_with fail
                refine (read_e 0 H.out rfl _ B 0 HR.out (by dsimp only; omega)).mono ?_
                rintro e w10 ⟨rfl, h10, -⟩
                have ST := Lib.hid (st_blkn B lB w10)
                replace h10 := h10.ext (extAl w10 (.cells (bvs B).toArray 25))
                have B1 := Lib.hid (heap_alloc_last w10 (.cells (bvs B).toArray 25))
                go_upto_region 23 with (first | (refine wpList_al rfl 25 rfl alloc_blk ?_; simp only [Act.put]) | (refine wpList_st rfl 25 _ _ rfl ST.out ?_; simp only [Act.put]))
                try simp only [List.setIfInBounds_toArray, List.set_cons_zero, List.set_cons_succ]
                generalize w10.alloc (.cells (bvs B).toArray 25) = V1 at *
                generalize w10.heap.size = gx at *
                clear ST
                have L1 := Lib.hid fun V2 (k : Ext V1 V2) => ld_blk ((Below.block k gx (Array.getElem?_eq_some_iff.1 B1.out).1).trans B1.out) lB
                have L2 : Hid (∀ V2, Ext V1 V2 → (Instr.loadAt 25 (.pointer (some ⟨gw, j * 512, none⟩))).run Try.prog V2 = .ok (.agg (bvs B).toArray) V2) := Lib.hid fun V2 k => by rw [HB.out]; exact (h10.ext k).blkld 0 rfl hL.len hj4
                have H10 := Lib.hid h10
                have q : eqB B B = true := by simp [eqB]
                clear h10 B1 HB HR H
                refine wp_region_pieces 9  [(true, [0, 1, 2, 3, 4, 5, 6, 7, 8])] (by kernel_rfl) (by kernel_rfl) ?_; simp only [pick, List.map_cons, List.map_nil, List.flatMap_cons, List.flatMap_nil, Option.toList_some, List.singleton_append, List.drop_succ_cons, List.drop_zero, List.getElem?_cons_zero, List.getElem?_cons_succ]
                refine ⟨by kernel_rfl, ?_⟩; apply Exists.intro; refine ⟨fun ψ hψ hne => (by (repeat (first | ( first | (go_big_quiet_want; refine quiet_ld 25 (.tmp 16) rfl (fun w' hw' => L1.out w' (ext_in hw')) ?_; go_simp; go_big_quiet_on) | (go_big_quiet_want; refine quiet_ld 25 (.tmp 141) rfl (fun w' hw' => L2.out w' (ext_in hw')) ?_; go_simp; go_big_quiet_on) ) | go_big_quiet_step ((  fail )))); exact wpQuiet_nil rfl), ?_⟩
                intro V2 hV2
                go_wp2_with fail
                go_roundw
                case rel => exact ⟨j + 1, by omega, by simp, Lib.hid (H10.out.ext hV2)⟩
                case measure => simp [intOf]; omega
              · go_wp2_with fail
                refine (blocks_l 0 H.out rfl).mono ?_
                rintro e w11 ⟨rfl, h11⟩
                go_wp2_with fail
                go_ret
                exact ⟨rfl, h11.bel⟩

theorem own : ownKnob Try.prog.godebug = none := by kernel_rfl
theorem laidOut : laidOutB Try.prog = true := by kernel_rfl

set_option maxRecDepth 100000 in
theorem lifted (os : Os) (started : os.Started) (H : Type) (enc : TypeId × Value → H) :
    ReturnsInHanded {} Try.checked os 9 .any (Rows.diskApartSpec.pre6 enc Try.prog Try.f9 Rows.diskApartRow.domain false) (Rows.diskApartSpec.post enc Try.prog Try.f9 false true false false) := by
  refine returnsInHanded_of_change (C := Try.checked) own started (by kernel_rfl) Try.func9
    (ChangeSpec.witness6 (enc := enc) (C := Try.checked) false ⟨#[], #[.slice none 0 0, .slice none 0 0, .bool false, .slice none 0 0], []⟩ 8 (by kernel_rfl) (by kernel_rfl) (by kernel_rfl) (by kernel_rfl)) ?_
  intro W base args ds gs before hval0 hW hcnd _
  have hval : ∀ (j : Nat) t v, Try.f9.params[j]? = some t → args[j]? = some v → Value.okWide Try.prog W .any base t v := hval0
  have hW' := hW
  obtain ⟨p, q, hA0, hV, rfl, hfz, hnd⟩ := hW
  have hA : DataW.TrodAll enc Try.prog W 0 (fun _ => true) true Try.f9.params.toList args.toList ds p := hA0
  rw [Try.params9] at hA hval
  obtain ⟨v0, vs0, d0, ds0, p0, q0, hargs, rfl, rfl, h0, r0⟩ := trodAll_cons hA
  obtain ⟨v1, vs1, d1, ds1, p1, q1, rfl, rfl, rfl, h1, r1⟩ := trodAll_cons r0
  obtain ⟨v2, vs2, d2, ds2, p2, q2, rfl, rfl, rfl, h2, r2⟩ := trodAll_cons r1
  obtain ⟨v3, vs3, d3, ds3, p3, q3, rfl, rfl, rfl, h3, r3⟩ := trodAll_cons r2
  obtain ⟨rfl, rfl, rfl⟩ := trodAll_nil r3
  obtain rfl : args = #[v0, v1, v2, v3] := by cases args; simp_all
  obtain ⟨rfl, rfl⟩ := trodVars_none hV
  have k0 := h0
  have lt0 : ∀ x ∈ p0, x.block < W.heap.size := by obtain ⟨m, hm⟩ := k0; exact DataW.trod_lt m _ _ _ hm
  have k1 := h1
  have lt1 : ∀ x ∈ p1, x.block < W.heap.size := by obtain ⟨m, hm⟩ := k1; exact DataW.trod_lt m _ _ _ hm
  have k2 := h2
  have lt2 : ∀ x ∈ p2, x.block < W.heap.size := by obtain ⟨m, hm⟩ := k2; exact DataW.trod_lt m _ _ _ hm
  have k3 := h3
  have lt3 : ∀ x ∈ p3, x.block < W.heap.size := by obtain ⟨m, hm⟩ := k3; exact DataW.trod_lt m _ _ _ hm
  obtain ⟨l0, y0, wl0⟩ := open_bytes Try.underlying38 Try.underlying5 (by kernel_rfl) (hval 0 _ v0 rfl rfl) h0
  obtain ⟨l1, y1, wl1⟩ := open_bytes Try.underlying38 Try.underlying5 (by kernel_rfl) (hval 1 _ v1 rfl rfl) h1
  obtain ⟨a2, rfl, -, -⟩ := open_bool Try.underlying4 (hval 2 _ v2 rfl rfl) h2
  obtain ⟨l3, y3, wl3⟩ := open_boolsL Try.underlying39 Try.underlying4 (by kernel_rfl) (hval 3 _ v3 rfl rfl) h3
  refine (walk (w := W) v0 l0 y0 wl0 v1 l1 y1 wl1 a2 v3 l3 y3 wl3).mono fun e W' ⟨he, bel⟩ => ?_
  subst he
  exact ⟨_, rfl, _, _, _, [], _, [], hW', trodAll_mk1 (shut_bool Try.underlying4 _), (trodAll_cons_mk (Below.trod laidOut (by kernel_rfl) (of_decide_eq_true (by kernel_rfl)) k0 bel lt0) (trodAll_cons_mk (Below.trod laidOut (by kernel_rfl) (of_decide_eq_true (by kernel_rfl)) k1 bel lt1) (trodAll_cons_mk (Below.trod laidOut (by kernel_rfl) (of_decide_eq_true (by kernel_rfl)) k2 bel lt2) (trodAll_cons_mk (Below.trod laidOut (by kernel_rfl) (of_decide_eq_true (by kernel_rfl)) k3 bel lt3) trodAll_mk0)))), rfl, bel.frame _, fun h => by cases h⟩

theorem proved : Rows.DiskApartSaid :=
  OpenClaim.holds_of_wide 9 Try.f9 rfl rfl rfl rfl rfl rfl rfl ⟨rfl, rfl, rfl, rfl, rfl⟩ rfl rfl rfl rfl rfl (by kernel_rfl) Try.func9 (by kernel_rfl)
    (of_decide_eq_true (by kernel_rfl)) (by unfold Func.isWrapper; first | (rw [if_pos (by decide +kernel)]; kernel_rfl) | (rw [if_neg (by decide +kernel)]; exact ⟨rfl, rfl⟩))
    (fun os started H enc _ => lifted os started H enc)
end Go.Proofs.Ytobcfocbglkicaa.diskApart
