/- Proved: DiskAll returns true whatever writes that are flushed, and whatever writes that wait, it is called with, and each argument reads behind the call as before. No condition. -/
import Derived.Test.YtobcfocbglkicaaDkW
import Derived.Test.YtobcfocbglkicaaDkN
import Derived.Test.YtobcfocbglkicaaDkO
import Derived.Test.YtobcfocbglkicaaLift
import Derived.Deep.DeepCutAuto
set_option linter.unusedVariables false
set_option maxRecDepth 100000
namespace Go.Proofs.Ytobcfocbglkicaa.diskAll
open Go.RowKit Go.ChangeShapes Go.WideShapes Go.ChangeAt Go.Deep Go.Proofs.Ytobcfocbglkicaa
attribute [local go_sem ↓] neq_blk eql_blk

set_option maxHeartbeats 16000000 in
theorem walk {w : World} (vl : Value) (l : List UInt8) (hl : RS w vl l) (hlm : l.length ≤ maxLen) (vm : Value) (m : List UInt8) (hm : RS w vm m) (hmm : m.length ≤ maxLen) :
    Calls Try.prog 6 #[vl, vm] w fun e w' => e = .returned (.bool true) ∧ Below w.heap.size w w' := by
  unfold maxLen at hlm hmm
  obtain ⟨A, c, rfl, hcell⟩ := hl.at (Ext.refl w)
  obtain ⟨A2, c2, rfl, hcell2⟩ := hm.at (Ext.refl w)
  by_cases g1 : 200 < l.length
  · skip
    go_enter Try.func6, Try.ntmps6
    go_wp2_with (go_at_call 22; refine (dworks_any _).mono ?_; rintro e w9 ⟨rfl, k9⟩)
    refine (new_l (St.start w) 64 (by omega) (by omega)).mono ?_
    rintro e w1 ⟨g0, rfl, h1⟩
    go_wp2_with fail
    refine (dworks_any _).mono ?_
    rintro e w2 ⟨rfl, k2⟩
    go_wp2_with fail
    refine (dworks_any _).mono ?_
    rintro e w3 ⟨rfl, k3⟩
    go_wp2_with fail
    go_ret
    exact ⟨rfl, ((h1.ext k2).ext k3).bel⟩
  by_cases g2 : 200 < m.length
  · skip
    go_enter Try.func6, Try.ntmps6
    go_wp2_with (go_at_call 22; refine (dworks_any _).mono ?_; rintro e w9 ⟨rfl, k9⟩)
    refine (new_l (St.start w) 64 (by omega) (by omega)).mono ?_
    rintro e w1 ⟨g0, rfl, h1⟩
    go_wp2_with fail
    refine (dworks_any _).mono ?_
    rintro e w2 ⟨rfl, k2⟩
    go_wp2_with fail
    refine (dworks_any _).mono ?_
    rintro e w3 ⟨rfl, k3⟩
    go_wp2_with fail
    go_ret
    exact ⟨rfl, ((h1.ext k2).ext k3).bel⟩
  have b1 : decide ((200 : Int) < (l.length : Int)) = false := by rw [decide_eq_false_iff_not]; omega
  have b2 : decide ((200 : Int) < (m.length : Int)) = false := by rw [decide_eq_false_iff_not]; omega
  have Hc := Lib.hid hcell
  have Hc2 := Lib.hid hcell2
  clear hl hm hcell hcell2
  go_enter Try.func6, Try.ntmps6
  go_wp2_with fail
  refine (new_l (St.start w) 64 (by omega) (by omega)).mono ?_
  rintro e w1 ⟨g, rfl, h1⟩
  go_wp2_with fail
  refine (dworks_any _).mono ?_
  rintro e w2 ⟨rfl, k2⟩
  have h2 : St w [] [(g, ⟨64, [], [], 0, [], false⟩)] w2 := h1.ext k2
  clear h1 k2
  go_wp2_with fail
  go_loopw [7] (fun i wr => ∃ j : Nat, j ≤ l.length ∧ i = .int .i64 j ∧ ∃ wt, wt.length = j ∧ Hid (St w [] [(g, ⟨64, [], wt, 0, [], false⟩)] wr)) (fun i _ => l.length - (intOf i).toNat)
  case atStart => exact ⟨0, Nat.zero_le _, rfl, [], rfl, Lib.hid h2⟩
  case round =>
    obtain ⟨j, hj, rfl, wt, hwt, H⟩ := hrel
    by_cases hjl : j < l.length
    · obtain ⟨b, off, rfl, hlc, hlt, hcell⟩ := Hc.out j hjl
      have hz0 : 0 ≤ (l[j].toNat : Int) % 64 := by omega
      have hz1 : (l[j].toNat : Int) % 64 < 64 := by omega
      unfold bv at hcell
      go_wp2_with fail
      have e1 : ∀ ψ (e : ExtP wr.heap.size wr ψ), e.val.cell? ⟨b, off + j, none⟩ = some (.int .u8 (l[j].toNat : Int)) := fun ψ e => e.cell ((Below.cell (p := ⟨b, off + j, none⟩) H.out.bel hlt).trans hcell) (Nat.lt_of_lt_of_le hlt (Below.size H.out.bel))
      refine wp_region_pieces 12  [(true, [0, 1, 2, 3, 4, 5, 6, 7, 8, 9, 10, 11])] (by kernel_rfl) (by kernel_rfl) ?_; simp only [pick, List.map_cons, List.map_nil, List.flatMap_cons, List.flatMap_nil, Option.toList_some, List.singleton_append, List.drop_succ_cons, List.drop_zero, List.getElem?_cons_zero, List.getElem?_cons_succ]
      refine ⟨by kernel_rfl, ?_⟩; apply Exists.intro; refine ⟨fun ψ hψ hne => (by (repeat (first | ( fail ) | go_big_quiet_step ((  go_at_call 27; exact extP_of hψ (Nat.le_refl _) (block_any l[j] _ rfl _) )))); exact wpQuiet_nil rfl), ?_⟩
      intro V hV
      clear e1
      go_wp2_with fail
      refine (write_k 0 (H.out.ext hV) rfl _ (blkC_length _) _ _ (DK.write_go hz0 hz1) (by simp) (by dsimp only; omega)).mono ?_
      rintro e w4 ⟨rfl, h4⟩
      replace h4 : St w [] [(g, ⟨64, [], wt ++ [((l[j].toNat : Int) % 64, blkC l[j])], 0, [], false⟩)] w4 := h4
      go_wp2_with fail
      go_roundw
      case rel => exact ⟨j + 1, hjl, by simp, wt ++ [((l[j].toNat : Int) % 64, blkC l[j])], by rw [List.length_append, List.length_singleton, hwt], Lib.hid h4⟩
      case measure => first | (simp [intOf]; done) | (simp [intOf]; omega)
    · clear h2
      go_wp2_with fail
      refine (flush_k 0 H.out rfl _ _ DK.flush_go (by simp) (by dsimp only; omega)).mono ?_
      rintro e w3 ⟨rfl, h3⟩
      replace h3 : St w [] [(g, ⟨64, wt, [], 0, [], false⟩)] w3 := h3
      go_wp2_with fail
      refine (copy_l 0 h3 rfl (by simp) (by simp)).mono ?_
      rintro e w4 ⟨gw, rfl, h4⟩
      have MK := fun w => mkBools w m.length (by omega)
      have h5 := h4.alloc (.cells (bcs (List.replicate m.length false)).toArray 4 (0, 0))
      replace h5 : St w [(w4.heap.size, .cells (bcs (List.replicate 0 true ++ List.replicate (m.length - 0) false)).toArray 4 (0, 0))] [(gw, ⟨64, wt, [], 0, [], false⟩), (g, ⟨64, wt, [], 0, [], false⟩)] _ := h5
      have H5 := Lib.hid h5
      clear h5 h4 h3
      go_upto_region 13 with fail
      try simp only [List.setIfInBounds_toArray, List.set_cons_zero, List.set_cons_succ]
      generalize w4.alloc (.cells (bcs (List.replicate m.length false)).toArray 4 (0, 0)) = V5 at *
      generalize w4.heap.size = gk at *
      clear MK
      have hwl : wt.length ≤ 200 := by omega
      clear Hc hwt hj hjl H
      go_wp2_with fail
      go_loopw [10] (fun i wr => ∃ j : Nat, j ≤ m.length ∧ i = .int .i64 j ∧ ∃ w2, w2.length = j ∧ Hid (St w [(gk, .cells (bcs (List.replicate j true ++ List.replicate (m.length - j) false)).toArray 4 (0, 0))] [(gw, ⟨64, wt, [], 0, [], false⟩), (g, ⟨64, wt, w2, 0, [], false⟩)] wr)) (fun i _ => m.length - (intOf i).toNat)
      case atStart => exact ⟨0, Nat.zero_le _, rfl, [], rfl, H5⟩
      case round =>
        obtain ⟨j, hj, rfl, w2, hwt, H⟩ := hrel
        by_cases hjl : j < m.length
        · obtain ⟨b, off, rfl, hlc, hlt, hcell⟩ := Hc2.out j hjl
          have hz0 : 0 ≤ (m[j].toNat : Int) % 64 := by omega
          have hz1 : (m[j].toNat : Int) % 64 < 64 := by omega
          unfold bv at hcell
          go_wp2_with fail
          have e1 : ∀ ψ (e : ExtP wr.heap.size wr ψ), e.val.cell? ⟨b, off + j, none⟩ = some (.int .u8 (m[j].toNat : Int)) := fun ψ e => e.cell ((Below.cell (p := ⟨b, off + j, none⟩) H.out.bel hlt).trans hcell) (Nat.lt_of_lt_of_le hlt (Below.size H.out.bel))
          refine wp_region_pieces 13  [(true, [0, 1, 2, 3, 4, 5, 6, 7, 8, 9, 10, 11, 12])] (by kernel_rfl) (by kernel_rfl) ?_; simp only [pick, List.map_cons, List.map_nil, List.flatMap_cons, List.flatMap_nil, Option.toList_some, List.singleton_append, List.drop_succ_cons, List.drop_zero, List.getElem?_cons_zero, List.getElem?_cons_succ]
          refine ⟨by kernel_rfl, ?_⟩; apply Exists.intro; refine ⟨fun ψ hψ hne => (by (repeat (first | ( fail ) | go_big_quiet_step ((  go_at_call 27; exact extP_of hψ (Nat.le_refl _) (block_any (m[j] + 1) _ (by exact u8_add m[j] 1) _) )))); exact wpQuiet_nil rfl), ?_⟩
          intro V hV
          clear e1
          go_wp2_with fail
          refine (write_k 1 (H.out.ext hV) rfl _ (blkC_length _) _ _ (DK.write_go hz0 hz1) (by simp) (by dsimp only; omega)).mono ?_
          rintro e w4 ⟨rfl, h4⟩
          replace h4 : St w [(gk, .cells (bcs (List.replicate j true ++ List.replicate (m.length - j) false)).toArray 4 (0, 0))] [(gw, ⟨64, wt, [], 0, [], false⟩), (g, ⟨64, wt, w2 ++ [((m[j].toNat : Int) % 64, blkC (m[j] + 1))], 0, [], false⟩)] w4 := h4
          have hk := h4.get 0 rfl
          have ck : w4.cell? ⟨gk, j, none⟩ = some (.bool false) := by
            rw [cell_of_row _ _ _ _ _ _ hk]
            simp only [bcs, List.getElem?_toArray, List.getElem?_map]
            rw [List.getElem?_append_right (by simp), List.length_replicate, Nat.sub_self, List.getElem?_replicate, if_pos (by omega)]
            rfl
          have fk : w4.frozen? ⟨gk, j, none⟩ = false := by simp [World.frozen?, hk]
          have st := setCell_eq_setRow w4 gk j _ _ _ (.bool true) hk
          rw [row_true _ _ hjl] at st
          have ST := Lib.hid st
          have H6 := Lib.hid (h4.row 0 rfl (bcs (List.replicate (j + 1) true ++ List.replicate (m.length - (j + 1)) false)).toArray)
          clear st h4 hk
          go_wp2_with fail
          rw [ST.out]
          go_roundw
          case rel => exact ⟨j + 1, hjl, by simp, w2 ++ [((m[j].toNat : Int) % 64, blkC (m[j] + 1))], by rw [List.length_append, List.length_singleton, hwt], H6⟩
          case measure => first | (simp [intOf]; done) | (simp [intOf]; omega)
        · obtain rfl : j = m.length := by omega
          clear Hc2 H5
          rw [Nat.sub_self, List.replicate_zero, List.append_nil] at H
          have hkp : kept (List.replicate m.length true) w2 = w2 := kept_all _ _ (by omega)
          go_wp2_with fail
          refine (copy_l 1 H.out rfl (by simp) (by dsimp only; omega)).mono ?_
          rintro e w5 ⟨gn, rfl, h5⟩
          go_wp2_with fail
          refine (copy_l 2 h5 rfl (by simp) (by dsimp only; omega)).mono ?_
          rintro e w6 ⟨ga, rfl, h6⟩
          go_wp2_with fail
          refine (flush_k 3 h6 rfl _ _ DK.flush_go (by simp) (by dsimp only; omega)).mono ?_
          rintro e w7 ⟨rfl, h7⟩
          go_wp2_with fail
          refine (fail_k 3 h7 rfl [] (.inl ⟨none, 0, rfl, rfl⟩) _ _ DK.fail_go (by simp) (by simp)).mono ?_
          rintro e w8 ⟨rfl, h8⟩
          have rb := h8.rb (l := List.replicate m.length true) 0 rfl
          rw [List.length_replicate] at rb
          go_wp2_with fail
          refine (fail_k 0 h8 rfl _ rb _ _ DK.fail_go (by simp; omega) (by dsimp only; omega)).mono ?_
          rintro e w9 ⟨rfl, h9⟩
          go_wp2_with fail
          refine (fail_k 1 h9 rfl [] (.inl ⟨none, 0, rfl, rfl⟩) _ _ DK.fail_go (by simp) (by dsimp only; omega)).mono ?_
          rintro e w10 ⟨rfl, h10⟩
          rw [hkp, kept_nil, kept_nil, List.append_nil] at h10
          replace h10 : St w [(gk, .cells (bcs (List.replicate m.length true)).toArray 4 (0, 0))] [(ga, ⟨64, wt ++ w2, [], 0, [], true⟩), (gn, ⟨64, wt, [], 0, [], true⟩), (gw, ⟨64, wt, [], 0, [], false⟩), (g, ⟨64, wt ++ w2, [], 0, [], true⟩)] w10 := by simpa using h10
          clear h5 h6 h7 h8 h9 rb hkp
          go_wp2_with fail
          refine (boot_l 3 h10 rfl rfl).mono ?_
          rintro e w11 ⟨xa, rfl, h11⟩
          go_wp2_with fail
          refine (boot_l 1 h11 rfl rfl).mono ?_
          rintro e w12 ⟨xb, rfl, h12⟩
          go_wp2_with fail
          refine (boot_l 3 h12 rfl rfl).mono ?_
          rintro e w13 ⟨xc, rfl, h13⟩
          replace h13 : St w _ [(xc, ⟨64, wt, [], 0, [], false⟩), (xb, ⟨64, wt ++ w2, [], 0, [], false⟩), (xa, ⟨64, wt ++ w2, [], 0, [], false⟩), (gw, ⟨64, wt, [], 0, [], false⟩)] w13 := ((h13.dropI 6).dropI 4).dropI 3
          have H13 := Lib.hid h13.drop
          clear h10 h11 h12 h13 H
          go_wp2_with fail
          generalize wt ++ w2 = on2 at *
          go_loopw [18] (fun i wr => ∃ j : Nat, j ≤ 64 ∧ i = .int .i64 j ∧ Hid (St w [] [(xc, ⟨64, wt, [], 0, [], false⟩), (xb, ⟨64, on2, [], 0, [], false⟩), (xa, ⟨64, on2, [], 0, [], false⟩), (gw, ⟨64, wt, [], 0, [], false⟩)] wr)) (fun i _ => 64 - (intOf i).toNat)
          case atStart => exact ⟨0, by omega, rfl, H13⟩
          case round =>
            obtain ⟨j, hj, rfl, H⟩ := hrel
            by_cases hj4 : j < 64
            · obtain ⟨B, hB⟩ : ∃ B, B = (lastB (on2 ++ []) (j : Int)).getD zB := ⟨_, rfl⟩
              obtain ⟨C, hC⟩ : ∃ C, C = (lastB (wt ++ []) (j : Int)).getD zB := ⟨_, rfl⟩
              have hr : DK.read ⟨64, on2, [], 0, [], false⟩ (j : Int) = (B, 0) := by rw [hB]; exact DK.read_go (by omega) (by omega)
              have hr2 : DK.read ⟨64, wt, [], 0, [], false⟩ (j : Int) = (C, 0) := by rw [hC]; exact DK.read_go (by omega) (by omega)
              have lB : B.length = 512 := by
                have := ((H.out.ok (i := 1) rfl).read (j : Int)).1
                rw [hr] at this
                exact this
              have lC : C.length = 512 := by
                have := ((H.out.ok (i := 0) rfl).read (j : Int)).1
                rw [hr2] at this
                exact this
              clear hB hC
              have HR := Lib.hid hr
              have HR2 := Lib.hid hr2
              have h14 := H.out
              clear hr hr2
              go_wp2_with fail
              refine (read_e 2 h14 rfl _ B 0 HR.out (by simp)).mono ?_
              rintro e w15 ⟨rfl, h15, k15⟩
              have ST := Lib.hid (st_blkn B lB w15)
              have KX := Ext.trans k15 (extAl w15 (.cells (bvs B).toArray 25))
              replace h15 := h15.ext (extAl w15 (.cells (bvs B).toArray 25))
              have B15 := Lib.hid (heap_alloc_last w15 (.cells (bvs B).toArray 25))
              skip
              clear KX k15
              go_upto_region 32 with (first | (refine wpList_al rfl 25 rfl alloc_blk ?_; simp only [Act.put]) | (refine wpList_st rfl 25 _ _ rfl ST.out ?_; simp only [Act.put]))
              try simp only [List.setIfInBounds_toArray, List.set_cons_zero, List.set_cons_succ]
              generalize w15.alloc (.cells (bvs B).toArray 25) = V15 at *
              generalize w15.heap.size = gx15 at *
              clear ST
              go_wp2_with fail
              refine (read_e 1 h15 rfl _ B 0 HR.out (by simp)).mono ?_
              rintro e w16 ⟨rfl, h16, k16⟩
              have ST := Lib.hid (st_blkn B lB w16)
              have KX := Ext.trans k16 (extAl w16 (.cells (bvs B).toArray 25))
              replace h16 := h16.ext (extAl w16 (.cells (bvs B).toArray 25))
              have B16 := Lib.hid (heap_alloc_last w16 (.cells (bvs B).toArray 25))
              replace B15 := blk_keep KX B15
              clear KX k16
              go_upto_region 33 with (first | (refine wpList_al rfl 25 rfl alloc_blk ?_; simp only [Act.put]) | (refine wpList_st rfl 25 _ _ rfl ST.out ?_; simp only [Act.put]))
              try simp only [List.setIfInBounds_toArray, List.set_cons_zero, List.set_cons_succ]
              generalize w16.alloc (.cells (bvs B).toArray 25) = V16 at *
              generalize w16.heap.size = gx16 at *
              clear ST
              go_wp2_with fail
              refine (read_e 0 h16 rfl _ C 0 HR2.out (by simp)).mono ?_
              rintro e w17 ⟨rfl, h17, k17⟩
              have ST := Lib.hid (st_blkn C lC w17)
              have KX := Ext.trans k17 (extAl w17 (.cells (bvs C).toArray 25))
              replace h17 := h17.ext (extAl w17 (.cells (bvs C).toArray 25))
              have B17 := Lib.hid (heap_alloc_last w17 (.cells (bvs C).toArray 25))
              replace B15 := blk_keep KX B15; replace B16 := blk_keep KX B16
              clear KX k17
              go_upto_region 34 with (first | (refine wpList_al rfl 25 rfl alloc_blk ?_; simp only [Act.put]) | (refine wpList_st rfl 25 _ _ rfl ST.out ?_; simp only [Act.put]))
              try simp only [List.setIfInBounds_toArray, List.set_cons_zero, List.set_cons_succ]
              generalize w17.alloc (.cells (bvs C).toArray 25) = V17 at *
              generalize w17.heap.size = gx17 at *
              clear ST
              go_wp2_with fail
              refine (read_e 3 h17 rfl _ C 0 HR2.out (by simp)).mono ?_
              rintro e w18 ⟨rfl, h18, k18⟩
              have ST := Lib.hid (st_blkn C lC w18)
              have KX := Ext.trans k18 (extAl w18 (.cells (bvs C).toArray 25))
              replace h18 := h18.ext (extAl w18 (.cells (bvs C).toArray 25))
              have B18 := Lib.hid (heap_alloc_last w18 (.cells (bvs C).toArray 25))
              replace B15 := blk_keep KX B15; replace B16 := blk_keep KX B16; replace B17 := blk_keep KX B17
              clear KX k18
              go_upto_region 35 with (first | (refine wpList_al rfl 25 rfl alloc_blk ?_; simp only [Act.put]) | (refine wpList_st rfl 25 _ _ rfl ST.out ?_; simp only [Act.put]))
              try simp only [List.setIfInBounds_toArray, List.set_cons_zero, List.set_cons_succ]
              generalize w18.alloc (.cells (bvs C).toArray 25) = V18 at *
              generalize w18.heap.size = gx18 at *
              clear ST
              have L1 := Lib.hid (ld_blk B15.out lB)
              have L2 := Lib.hid (ld_blk B16.out lB)
              have L3 := Lib.hid (ld_blk B17.out lC)
              have L4 := Lib.hid (ld_blk B18.out lC)
              have H18 := Lib.hid h18
              clear h14 h15 h16 h17 h18 B15 B16 B17 B18 H
              have q : eqB B B = true := by simp [eqB]
              have q2 : eqB C C = true := by simp [eqB]
              go_wp2_with (first | (refine wpList_ldg 25 (.tmp 19) rfl (by rfl) L1.out ?_; simp only [Act.put]) | (refine wpList_ldg 25 (.tmp 21) rfl (by rfl) L2.out ?_; simp only [Act.put]) | (refine wpList_ldg 25 (.tmp 23) rfl (by rfl) L3.out ?_; simp only [Act.put]) | (refine wpList_ldg 25 (.tmp 25) rfl (by rfl) L4.out ?_; simp only [Act.put]))
              go_roundw
              case rel => exact ⟨j + 1, by omega, by simp, H18⟩
              case measure => simp [intOf]; omega
            · go_wp2_with fail
              go_ret
              exact ⟨rfl, H.out.bel⟩

theorem own : ownKnob Try.prog.godebug = none := by kernel_rfl
theorem laidOut : laidOutB Try.prog = true := by kernel_rfl

set_option maxRecDepth 100000 in
theorem lifted (os : Os) (started : os.Started) (H : Type) (enc : TypeId × Value → H) :
    ReturnsInHanded {} Try.checked os 6 .any (Rows.diskAllSpec.pre6 enc Try.prog Try.f6 Rows.diskAllRow.domain false) (Rows.diskAllSpec.post enc Try.prog Try.f6 false true false false) := by
  refine returnsInHanded_of_change (C := Try.checked) own started (by kernel_rfl) Try.func6
    (ChangeSpec.witness6 (enc := enc) (C := Try.checked) false ⟨#[], #[.slice none 0 0, .slice none 0 0], []⟩ 8 (by kernel_rfl) (by kernel_rfl) (by kernel_rfl) (by kernel_rfl)) ?_
  intro W base args ds gs before hval0 hW hcnd _
  have hval : ∀ (j : Nat) t v, Try.f6.params[j]? = some t → args[j]? = some v → Value.okWide Try.prog W .any base t v := hval0
  have hW' := hW
  obtain ⟨p, q, hA0, hV, rfl, hfz, hnd⟩ := hW
  have hA : DataW.TrodAll enc Try.prog W 0 (fun _ => true) true Try.f6.params.toList args.toList ds p := hA0
  rw [Try.params6] at hA hval
  obtain ⟨v0, vs0, d0, ds0, p0, q0, hargs, rfl, rfl, h0, r0⟩ := trodAll_cons hA
  obtain ⟨v1, vs1, d1, ds1, p1, q1, rfl, rfl, rfl, h1, r1⟩ := trodAll_cons r0
  obtain ⟨rfl, rfl, rfl⟩ := trodAll_nil r1
  obtain rfl : args = #[v0, v1] := by cases args; simp_all
  obtain ⟨rfl, rfl⟩ := trodVars_none hV
  have k0 := h0
  have lt0 : ∀ x ∈ p0, x.block < W.heap.size := by obtain ⟨m, hm⟩ := k0; exact DataW.trod_lt m _ _ _ hm
  have k1 := h1
  have lt1 : ∀ x ∈ p1, x.block < W.heap.size := by obtain ⟨m, hm⟩ := k1; exact DataW.trod_lt m _ _ _ hm
  obtain ⟨l0, y0, wl0⟩ := open_bytes Try.underlying38 Try.underlying5 (by kernel_rfl) (hval 0 _ v0 rfl rfl) h0
  obtain ⟨l1, y1, wl1⟩ := open_bytes Try.underlying38 Try.underlying5 (by kernel_rfl) (hval 1 _ v1 rfl rfl) h1
  refine (walk (w := W) v0 l0 y0 wl0 v1 l1 y1 wl1).mono fun e W' ⟨he, bel⟩ => ?_
  subst he
  exact ⟨_, rfl, _, _, _, [], _, [], hW', trodAll_mk1 (shut_bool Try.underlying4 _), (trodAll_cons_mk (Below.trod laidOut (by kernel_rfl) (of_decide_eq_true (by kernel_rfl)) k0 bel lt0) (trodAll_cons_mk (Below.trod laidOut (by kernel_rfl) (of_decide_eq_true (by kernel_rfl)) k1 bel lt1) trodAll_mk0)), rfl, bel.frame _, fun h => by cases h⟩

theorem proved : Rows.DiskAllSaid :=
  OpenClaim.holds_of_wide 6 Try.f6 rfl rfl rfl rfl rfl rfl rfl ⟨rfl, rfl, rfl, rfl, rfl⟩ rfl rfl rfl rfl rfl (by kernel_rfl) Try.func6 (by kernel_rfl)
    (of_decide_eq_true (by kernel_rfl)) (by unfold Func.isWrapper; first | (rw [if_pos (by decide +kernel)]; kernel_rfl) | (rw [if_neg (by decide +kernel)]; exact ⟨rfl, rfl⟩))
    (fun os started H enc _ => lifted os started H enc)
end Go.Proofs.Ytobcfocbglkicaa.diskAll
