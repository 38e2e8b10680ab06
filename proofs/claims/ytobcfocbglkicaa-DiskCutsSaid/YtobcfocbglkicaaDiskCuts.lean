/- Proved: DiskCuts returns true whatever writes, place and list of truth values it is called with, and each argument reads behind the call as before. No condition. -/
import Derived.Test.YtobcfocbglkicaaDkW
import Derived.Test.YtobcfocbglkicaaDkN
import Derived.Test.YtobcfocbglkicaaDkO
import Derived.Test.YtobcfocbglkicaaLift
import Derived.Deep.DeepCutAuto
set_option linter.unusedVariables false
set_option maxRecDepth 100000
namespace Go.Proofs.Ytobcfocbglkicaa.diskCuts
open Go.RowKit Go.ChangeShapes Go.WideShapes Go.ChangeAt Go.Deep Go.Proofs.Ytobcfocbglkicaa
attribute [local go_sem ↓] neq_blk eql_blk

set_option maxHeartbeats 16000000 in
theorem walk0 (vl : Value) (l : List UInt8) (at_ : Int) (wat : (Lit.int .i64 at_).wf = true) (vk : Value) (keep : List Bool) (w : World) (hl : RS w vl l) (hk : RBo w vk keep) (hlm : l.length ≤ maxLen) (hkm0 : (∀ b off n c, vk = .slice (some ⟨b, off, none⟩) n c → b < w.heap.size) ∧ keep.length ≤ maxLen) :
    Calls Try.prog 4 #[vl, .int .i64 at_, vk] w fun e w' => e = .returned (.bool true) ∧ Below w.heap.size w w' := by
  obtain ⟨hkb, hkm⟩ := hkm0
  have Hb := Lib.hid hkb
  clear hkb
  unfold maxLen at hlm hkm
  obtain ⟨A, c, rfl, hcell⟩ := hl.at (Ext.refl w)
  obtain ⟨kA, kc, rfl⟩ := hk.form
  by_cases g1 : 200 < l.length
  · skip
    go_enter Try.func4, Try.ntmps4
    go_wp2_with (go_at_call 22; refine (dworks_any _).mono ?_; rintro e w0 ⟨rfl, hb0⟩; have hz0 := hb0.size; (try simp only [World.size_alloc] at hz0))
    go_ret
    exact ⟨rfl, by (repeat' (first | (with_reducible assumption) | (with_reducible exact Below.refl _ _) | (with_reducible refine below_sc ?_ ?_) | ((with_reducible show (_ : Nat) ≤ _); omega) | refine Below.setCell ?_ (by first | omega | (simp; done) | (simp; omega)) _ | refine Below.alloc ?_ (by first | omega | (simp; done) | (simp; omega)) _ | refine Below.drew ?_ | refine below_drewN ?_ _ | refine Below.trans ?_ (Below.mono (by assumption) (by first | omega | (simp; done) | (simp; omega)))))⟩
  by_cases g2 : 1000 < keep.length
  · skip
    go_enter Try.func4, Try.ntmps4
    go_wp2_with (go_at_call 22; refine (dworks_any _).mono ?_; rintro e w0 ⟨rfl, hb0⟩; have hz0 := hb0.size; (try simp only [World.size_alloc] at hz0))
    go_ret
    exact ⟨rfl, by (repeat' (first | (with_reducible assumption) | (with_reducible exact Below.refl _ _) | (with_reducible refine below_sc ?_ ?_) | ((with_reducible show (_ : Nat) ≤ _); omega) | refine Below.setCell ?_ (by first | omega | (simp; done) | (simp; omega)) _ | refine Below.alloc ?_ (by first | omega | (simp; done) | (simp; omega)) _ | refine Below.drew ?_ | refine below_drewN ?_ _ | refine Below.trans ?_ (Below.mono (by assumption) (by first | omega | (simp; done) | (simp; omega)))))⟩
  by_cases g3 : l.length = 0
  · skip
    go_enter Try.func4, Try.ntmps4
    go_wp2_with (go_at_call 22; refine (dworks_any _).mono ?_; rintro e w0 ⟨rfl, hb0⟩; have hz0 := hb0.size; (try simp only [World.size_alloc] at hz0))
    go_ret
    exact ⟨rfl, by (repeat' (first | (with_reducible assumption) | (with_reducible exact Below.refl _ _) | (with_reducible refine below_sc ?_ ?_) | ((with_reducible show (_ : Nat) ≤ _); omega) | refine Below.setCell ?_ (by first | omega | (simp; done) | (simp; omega)) _ | refine Below.alloc ?_ (by first | omega | (simp; done) | (simp; omega)) _ | refine Below.drew ?_ | refine below_drewN ?_ _ | refine Below.trans ?_ (Below.mono (by assumption) (by first | omega | (simp; done) | (simp; omega)))))⟩
  have b1 : decide ((200 : Int) < (l.length : Int)) = false := by rw [decide_eq_false_iff_not]; omega
  have b2 : decide ((1000 : Int) < (keep.length : Int)) = false := by rw [decide_eq_false_iff_not]; omega
  have b3 : ((l.length : Int) == 0) = false := by rw [beq_eq_false_iff_ne]; omega
  obtain ⟨kk, hkk, hke⟩ : ∃ kk : Nat, kk < l.length ∧ wrap64 ((IntKind.u64.wrap at_).tmod (l.length : Int)) = (kk : Int) := by
    have h1 : 0 ≤ IntKind.u64.wrap at_ := by simp [IntKind.wrap, IntKind.signed, IntKind.bits]; omega
    have h2 : (0 : Int) < (l.length : Int) := by omega
    have h3 := Int.emod_nonneg (IntKind.u64.wrap at_) (b := (l.length : Int)) (by omega)
    have h4 := Int.emod_lt_of_pos (IntKind.u64.wrap at_) h2
    rw [Int.tmod_eq_emod_of_nonneg h1]
    refine ⟨(IntKind.u64.wrap at_ % (l.length : Int)).toNat, by omega, ?_⟩
    rw [Int.toNat_of_nonneg h3]
    generalize IntKind.u64.wrap at_ % (l.length : Int) = X at *
    unfold wrap64
    omega
  have Hk := Lib.hid hk
  have Hl := Lib.hid hl
  have Hc := Lib.hid hcell
  clear hk hl hcell
  go_enter Try.func4, Try.ntmps4
  go_upto_region 4 with (go_at_call 22; refine (dworks_any _).mono ?_; rintro e w0 ⟨rfl, hb0⟩)
  rw [hke]
  have h0 : St w [] [] w0 := (St.start w).ext hb0
  clear hke b1 b2 b3 wat
  go_wp2_with fail
  refine (new_l h0 64 (by omega) (by omega)).mono ?_
  rintro e w1 ⟨g1', rfl, h1⟩
  go_wp2_with fail
  refine (new_l h1 64 (by omega) (by omega)).mono ?_
  rintro e w2 ⟨g2', rfl, h2⟩
  replace h2 : St w [] [(g2', ⟨64, [], [], 0, [], false⟩), (g1', ⟨64, [], [], 0, [], false⟩)] w2 := h2
  have CK := Lib.hid (cut_k 1 h2 rfl ((kk : Int) + 1) keep (Hk.out.ext h2.bel) _ _ (DK.say_go (by omega)) (by omega) (by omega) (fun b off m c' e => .inl (Hb.out b off m c' e)))
  go_wp2_with fail
  refine CK.out.mono ?_
  rintro e w3 ⟨rfl, h3⟩
  replace h3 : St w [] [(g2', ⟨64, [], [], 0, [], false⟩), (g1', ⟨64, [], [], (kk : Int) + 1, keep, false⟩)] w3 := h3
  clear h0 h1 h2 hb0 CK
  go_wp2_with fail
  go_loopw [12] (fun i wr => ∃ j : Nat, i = .int .i64 j ∧
    ((j ≤ kk ∧ ∃ on wt, wt.length ≤ j ∧ Hid (St w [] [(g2', ⟨64, on, wt, 0, [], false⟩), (g1', ⟨64, on, wt, (kk : Int) + 1 - (j : Int), keep, false⟩)] wr)) ∨
     (j = kk + 1 ∧ ∃ on wt, wt.length ≤ j ∧ Hid (St w [] [(g2', ⟨64, on, wt, 0, [], false⟩), (g1', ⟨64, on ++ kept keep wt, [], 0, [], true⟩)] wr)))) (fun i _ => kk + 2 - (intOf i).toNat)
  case atStart => exact ⟨0, rfl, .inl ⟨Nat.zero_le _, [], [], Nat.zero_le _, Lib.hid (by simpa using h3)⟩⟩
  case round =>
    obtain ⟨j, rfl, ⟨hj, on, wt, hwt, H⟩ | ⟨rfl, on, wt, hwt, H⟩⟩ := hrel
    · obtain ⟨b, off, rfl, hlc, hlt, hcell⟩ := Hc.out j (by omega)
      have cx : wr.cell? ⟨b, off + j, none⟩ = some (bv l[j]) := (Below.cell (p := ⟨b, off + j, none⟩) H.out.bel hlt).trans hcell
      unfold bv at cx
      have hx1 := l[j].toNat_lt
      have hltw : b < wr.heap.size := Nat.lt_of_lt_of_le hlt H.out.bel.size
      by_cases hx : (l[j].toNat : Int) = 255
      · rcases Nat.lt_or_ge j kk with hjk | hjk
        · go_wp2_with fail
          refine (flush_k 1 H.out rfl _ _ (DK.flush_more (by omega)) (by dsimp only; omega) (by dsimp only; omega)).mono ?_
          rintro e w4 ⟨rfl, h4⟩
          go_wp2_with fail
          refine (flush_k 0 h4 rfl _ _ DK.flush_go (by simp) (by dsimp only; omega)).mono ?_
          rintro e w5 ⟨rfl, h5⟩
          replace h5 : St w [] [(g2', ⟨64, on ++ wt, [], 0, [], false⟩), (g1', ⟨64, on ++ wt, [], (kk : Int) + 1 - j - 1, keep, false⟩)] w5 := h5
          clear h4
          go_wp2_with fail

          go_roundw
          case rel => exact ⟨j + 1, by simp, .inl ⟨hjk, on ++ wt, [], Nat.zero_le _, Lib.hid (by rw [show (kk : Int) + 1 - ((j + 1 : Nat) : Int) = (kk : Int) + 1 - j - 1 by omega]; exact h5)⟩⟩
          case measure => first | (simp [intOf]; done) | (simp [intOf]; omega)
        · obtain rfl : j = kk := by omega
          rw [show (j : Int) + 1 - j = 1 by omega] at H
          go_wp2_with fail
          refine (flush_k 1 H.out rfl _ _ DK.flush_die (by dsimp only; omega) (by dsimp only; omega)).mono ?_
          rintro e w4 ⟨rfl, h4⟩
          replace h4 : St w [] [(g2', ⟨64, on, wt, 0, [], false⟩), (g1', ⟨64, on ++ kept keep wt, [], 0, [], true⟩)] w4 := h4
          go_wp2_with fail
          go_roundw
          case rel => exact ⟨j + 1, by simp, .inr ⟨rfl, on, wt, by omega, Lib.hid h4⟩⟩
          case measure => first | (simp [intOf]; done) | (simp [intOf]; omega)
      · unfold bv at hcell
        have hz0 : 0 ≤ (l[j].toNat : Int) % 64 := by omega
        have hz1 : (l[j].toNat : Int) % 64 < 64 := by omega
        rcases Nat.lt_or_ge j kk with hjk | hjk
        · go_wp2_with fail
          have e1 : ∀ ψ (e : ExtP wr.heap.size wr ψ), e.val.cell? ⟨b, off + j, none⟩ = some (.int .u8 (l[j].toNat : Int)) := fun ψ e => e.cell ((Below.cell (p := ⟨b, off + j, none⟩) H.out.bel hlt).trans hcell) (Nat.lt_of_lt_of_le hlt (Below.size H.out.bel))
          refine wp_region_pieces 10  [(true, [0, 1, 2, 3, 4, 5, 6, 7, 8, 9])] (by kernel_rfl) (by kernel_rfl) ?_; simp only [pick, List.map_cons, List.map_nil, List.flatMap_cons, List.flatMap_nil, Option.toList_some, List.singleton_append, List.drop_succ_cons, List.drop_zero, List.getElem?_cons_zero, List.getElem?_cons_succ]
          refine ⟨by kernel_rfl, ?_⟩; apply Exists.intro; refine ⟨fun ψ hψ hne => (by (repeat (first | ( fail ) | go_big_quiet_step ((  go_at_call 27; exact extP_of hψ (Nat.le_refl _) (block_any (UInt8.ofNat j) _ (by rw [UInt8.toNat_ofNat']; omega) _) )))); exact wpQuiet_nil rfl), ?_⟩
          intro V hV
          clear e1
          go_wp2_with fail
          refine (write_k 1 (H.out.ext hV) rfl _ (blkC_length _) _ _ (DK.write_more hz0 hz1 (by omega)) (by dsimp only; omega) (by dsimp only; omega)).mono ?_
          rintro e w4 ⟨rfl, h4⟩
          go_wp2_with fail
          have e1 : ∀ ψ (e : ExtP w4.heap.size w4 ψ), e.val.cell? ⟨b, off + j, none⟩ = some (.int .u8 (l[j].toNat : Int)) := fun ψ e => e.cell ((Below.cell (p := ⟨b, off + j, none⟩) h4.bel hlt).trans hcell) (Nat.lt_of_lt_of_le hlt (Below.size h4.bel))
          refine wp_region_pieces 10  [(true, [0, 1, 2, 3, 4, 5, 6, 7, 8, 9])] (by kernel_rfl) (by kernel_rfl) ?_; simp only [pick, List.map_cons, List.map_nil, List.flatMap_cons, List.flatMap_nil, Option.toList_some, List.singleton_append, List.drop_succ_cons, List.drop_zero, List.getElem?_cons_zero, List.getElem?_cons_succ]
          refine ⟨by kernel_rfl, ?_⟩; apply Exists.intro; refine ⟨fun ψ hψ hne => (by (repeat (first | ( fail ) | go_big_quiet_step ((  go_at_call 27; exact extP_of hψ (Nat.le_refl _) (block_any (UInt8.ofNat j) _ (by rw [UInt8.toNat_ofNat']; omega) _) )))); exact wpQuiet_nil rfl), ?_⟩
          intro V2 hV2
          clear e1
          go_wp2_with fail
          refine (write_k 0 (h4.ext hV2) rfl _ (blkC_length _) _ _ (DK.write_go hz0 hz1) (by dsimp only; simp) (by dsimp only; omega)).mono ?_
          rintro e w5 ⟨rfl, h5⟩
          replace h5 : St w [] [(g2', ⟨64, on, wt ++ [((l[j].toNat : Int) % 64, blkC (UInt8.ofNat j))], 0, [], false⟩), (g1', ⟨64, on, wt ++ [((l[j].toNat : Int) % 64, blkC (UInt8.ofNat j))], (kk : Int) + 1 - j - 1, keep, false⟩)] w5 := h5
          clear h4
          go_wp2_with fail
          go_roundw
          case rel => exact ⟨j + 1, by simp, .inl ⟨hjk, on, wt ++ [((l[j].toNat : Int) % 64, blkC (UInt8.ofNat j))], by rw [List.length_append, List.length_singleton]; omega, Lib.hid (by rw [show (kk : Int) + 1 - ((j + 1 : Nat) : Int) = (kk : Int) + 1 - j - 1 by omega]; exact h5)⟩⟩
          case measure => first | (simp [intOf]; done) | (simp [intOf]; omega)
        · obtain rfl : j = kk := by omega
          rw [show (j : Int) + 1 - j = 1 by omega] at H
          go_wp2_with fail
          have e1 : ∀ ψ (e : ExtP wr.heap.size wr ψ), e.val.cell? ⟨b, off + j, none⟩ = some (.int .u8 (l[j].toNat : Int)) := fun ψ e => e.cell ((Below.cell (p := ⟨b, off + j, none⟩) H.out.bel hlt).trans hcell) (Nat.lt_of_lt_of_le hlt (Below.size H.out.bel))
          refine wp_region_pieces 10  [(true, [0, 1, 2, 3, 4, 5, 6, 7, 8, 9])] (by kernel_rfl) (by kernel_rfl) ?_; simp only [pick, List.map_cons, List.map_nil, List.flatMap_cons, List.flatMap_nil, Option.toList_some, List.singleton_append, List.drop_succ_cons, List.drop_zero, List.getElem?_cons_zero, List.getElem?_cons_succ]
          refine ⟨by kernel_rfl, ?_⟩; apply Exists.intro; refine ⟨fun ψ hψ hne => (by (repeat (first | ( fail ) | go_big_quiet_step ((  go_at_call 27; exact extP_of hψ (Nat.le_refl _) (block_any (UInt8.ofNat j) _ (by rw [UInt8.toNat_ofNat']; omega) _) )))); exact wpQuiet_nil rfl), ?_⟩
          intro V hV
          clear e1
          go_wp2_with fail
          refine (write_k 1 (H.out.ext hV) rfl _ (blkC_length _) _ _ (DK.write_die hz0 hz1) (by dsimp only; omega) (by dsimp only; omega)).mono ?_
          rintro e w4 ⟨rfl, h4⟩
          go_wp2_with fail
          have e1 : ∀ ψ (e : ExtP w4.heap.size w4 ψ), e.val.cell? ⟨b, off + j, none⟩ = some (.int .u8 (l[j].toNat : Int)) := fun ψ e => e.cell ((Below.cell (p := ⟨b, off + j, none⟩) h4.bel hlt).trans hcell) (Nat.lt_of_lt_of_le hlt (Below.size h4.bel))
          refine wp_region_pieces 10  [(true, [0, 1, 2, 3, 4, 5, 6, 7, 8, 9])] (by kernel_rfl) (by kernel_rfl) ?_; simp only [pick, List.map_cons, List.map_nil, List.flatMap_cons, List.flatMap_nil, Option.toList_some, List.singleton_append, List.drop_succ_cons, List.drop_zero, List.getElem?_cons_zero, List.getElem?_cons_succ]
          refine ⟨by kernel_rfl, ?_⟩; apply Exists.intro; refine ⟨fun ψ hψ hne => (by (repeat (first | ( fail ) | go_big_quiet_step ((  go_at_call 27; exact extP_of hψ (Nat.le_refl _) (block_any (UInt8.ofNat j) _ (by rw [UInt8.toNat_ofNat']; omega) _) )))); exact wpQuiet_nil rfl), ?_⟩
          intro V2 hV2
          clear e1
          go_wp2_with fail
          refine (write_k 0 (h4.ext hV2) rfl _ (blkC_length _) _ _ (DK.write_go hz0 hz1) (by dsimp only; simp) (by dsimp only; omega)).mono ?_
          rintro e w5 ⟨rfl, h5⟩
          replace h5 : St w [] [(g2', ⟨64, on, wt ++ [((l[j].toNat : Int) % 64, blkC (UInt8.ofNat j))], 0, [], false⟩), (g1', ⟨64, on ++ kept keep (wt ++ [((l[j].toNat : Int) % 64, blkC (UInt8.ofNat j))]), [], 0, [], true⟩)] w5 := h5
          clear h4
          go_wp2_with fail
          go_roundw
          case rel => exact ⟨j + 1, by simp, .inr ⟨rfl, on, wt ++ [((l[j].toNat : Int) % 64, blkC (UInt8.ofNat j))], by rw [List.length_append, List.length_singleton]; omega, Lib.hid h5⟩⟩
          case measure => first | (simp [intOf]; done) | (simp [intOf]; omega)
    · clear h3
      go_wp2_with fail
      refine (fail_k 0 H.out rfl keep (Hk.out.ext H.out.bel) _ _ DK.fail_go (by omega) (by dsimp only; omega)).mono ?_
      rintro e w4 ⟨rfl, h4⟩
      go_wp2_with fail
      refine (dead_k 1 h4 rfl true rfl).mono ?_
      rintro e w5 ⟨rfl, h5⟩
      go_wp2_with fail
      refine (booted_l 1 h5 rfl rfl).mono ?_
      rintro e w6 ⟨ga, rfl, h6⟩
      go_wp2_with fail
      refine (booted_l 1 h6 rfl rfl).mono ?_
      rintro e w7 ⟨gb, rfl, h7⟩
      replace h7 := (h7.dropI 3).dropI 2
      replace h7 : St w [] [(gb, ⟨64, on ++ kept keep wt, [], 0, [], false⟩), (ga, ⟨64, on ++ kept keep wt, [], 0, [], false⟩)] w7 := h7
      clear h4 h5 h6 Hk Hl Hc Hb H
      generalize on ++ kept keep wt = on' at *
      go_wp2_with fail
      go_loopw [16] (fun i wr => ∃ j : Nat, j ≤ 64 ∧ i = .int .i64 j ∧ Hid (St w [] [(gb, ⟨64, on', [], 0, [], false⟩), (ga, ⟨64, on', [], 0, [], false⟩)] wr)) (fun i _ => 64 - (intOf i).toNat)
      case atStart => exact ⟨0, by omega, rfl, Lib.hid h7⟩
      case round =>
        obtain ⟨j, hj, rfl, H⟩ := hrel
        by_cases hj4 : j < 64
        · obtain ⟨B, hB⟩ : ∃ B, B = (lastB (on' ++ []) (j : Int)).getD zB := ⟨_, rfl⟩
          have hr : DK.read ⟨64, on', [], 0, [], false⟩ (j : Int) = (B, 0) := by rw [hB]; exact DK.read_go (by omega) (by omega)
          have lB : B.length = 512 := by
            have := ((H.out.ok (i := 0) rfl).read (j : Int)).1
            rw [hr] at this
            exact this
          clear hB
          have HR := Lib.hid hr
          clear hr
          go_wp2_with fail
          refine (read_e 1 H.out rfl _ B 0 HR.out (by simp)).mono ?_
          rintro e w8 ⟨rfl, h8, -⟩
          have ST := Lib.hid (st_blkn B lB w8)
          replace h8 := h8.ext (extAl w8 (.cells (bvs B).toArray 25))
          have B1 := Lib.hid (heap_alloc_last w8 (.cells (bvs B).toArray 25))
          go_upto_region 29 with (first | (refine wpList_al rfl 25 rfl alloc_blk ?_; simp only [Act.put]) | (refine wpList_st rfl 25 _ _ rfl ST.out ?_; simp only [Act.put]))
          try simp only [List.setIfInBounds_toArray, List.set_cons_zero, List.set_cons_succ]
          generalize w8.alloc (.cells (bvs B).toArray 25) = V1 at *
          generalize w8.heap.size = gx at *
          clear ST
          go_wp2_with fail
          refine (read_e 0 h8 rfl _ B 0 HR.out (by simp)).mono ?_
          rintro e w9 ⟨rfl, h9, k9⟩
          have ST := Lib.hid (st_blkn B lB w9)
          replace h9 := h9.ext (extAl w9 (.cells (bvs B).toArray 25))
          have B2 := heap_alloc_last w9 (.cells (bvs B).toArray 25)
          have B1' := (Below.block (Ext.trans k9 (extAl w9 (.cells (bvs B).toArray 25))) gx (Array.getElem?_eq_some_iff.1 B1.out).1).trans B1.out
          have L1 := Lib.hid (ld_blk B1' lB)
          have L2 := Lib.hid (ld_blk B2 lB)
          have h9' := Lib.hid h9
          clear B1 B1' B2 k9 h8 h9
          go_upto_region 30 with (first | (refine wpList_al rfl 25 rfl alloc_blk ?_; simp only [Act.put]) | (refine wpList_st rfl 25 _ _ rfl ST.out ?_; simp only [Act.put]))
          try simp only [List.setIfInBounds_toArray, List.set_cons_zero, List.set_cons_succ]
          generalize w9.alloc (.cells (bvs B).toArray 25) = V2 at *
          generalize w9.heap.size = gy at *
          clear ST
          have q : eqB B B = true := by simp [eqB]
          go_wp2_with (first | (refine wpList_ldg 25 (.tmp 17) rfl (by rfl) L1.out ?_; simp only [Act.put]) | (refine wpList_ldg 25 (.tmp 19) rfl (by rfl) L2.out ?_; simp only [Act.put]))
          go_roundw
          case rel => exact ⟨j + 1, by omega, by simp, h9'⟩
          case measure => first | (simp [intOf]; done) | (simp [intOf]; omega)
        · go_wp2_with fail
          go_ret
          exact ⟨rfl, H.out.bel⟩

theorem walk {w : World} (vl : Value) (l : List UInt8) (hl : RS w vl l) (hlm : l.length ≤ maxLen) (at_ : Int) (wat : (Lit.int .i64 at_).wf = true) (vk : Value) (keep : List Bool) (hk : RBo w vk keep) (hkm : (∀ b off n c, vk = .slice (some ⟨b, off, none⟩) n c → b < w.heap.size) ∧ keep.length ≤ maxLen) :
    Calls Try.prog 4 #[vl, .int .i64 at_, vk] w fun e w' => e = .returned (.bool true) ∧ Below w.heap.size w w' :=
  walk0 vl l at_ wat vk keep w hl hk hlm hkm

theorem own : ownKnob Try.prog.godebug = none := by kernel_rfl
theorem laidOut : laidOutB Try.prog = true := by kernel_rfl

set_option maxRecDepth 100000 in
theorem lifted (os : Os) (started : os.Started) (H : Type) (enc : TypeId × Value → H) :
    ReturnsInHanded {} Try.checked os 4 .any (Rows.diskCutsSpec.pre6 enc Try.prog Try.f4 Rows.diskCutsRow.domain false) (Rows.diskCutsSpec.post enc Try.prog Try.f4 false true false false) := by
  refine returnsInHanded_of_change (C := Try.checked) own started (by kernel_rfl) Try.func4
    (ChangeSpec.witness6 (enc := enc) (C := Try.checked) false ⟨#[], #[.slice none 0 0, .int .i64 0, .slice none 0 0], []⟩ 8 (by kernel_rfl) (by kernel_rfl) (by kernel_rfl) (by kernel_rfl)) ?_
  intro W base args ds gs before hval0 hW hcnd _
  have hval : ∀ (j : Nat) t v, Try.f4.params[j]? = some t → args[j]? = some v → Value.okWide Try.prog W .any base t v := hval0
  have hW' := hW
  obtain ⟨p, q, hA0, hV, rfl, hfz, hnd⟩ := hW
  have hA : DataW.TrodAll enc Try.prog W 0 (fun _ => true) true Try.f4.params.toList args.toList ds p := hA0
  rw [Try.params4] at hA hval
  obtain ⟨v0, vs0, d0, ds0, p0, q0, hargs, rfl, rfl, h0, r0⟩ := trodAll_cons hA
  obtain ⟨v1, vs1, d1, ds1, p1, q1, rfl, rfl, rfl, h1, r1⟩ := trodAll_cons r0
  obtain ⟨v2, vs2, d2, ds2, p2, q2, rfl, rfl, rfl, h2, r2⟩ := trodAll_cons r1
  obtain ⟨rfl, rfl, rfl⟩ := trodAll_nil r2
  obtain rfl : args = #[v0, v1, v2] := by cases args; simp_all
  obtain ⟨rfl, rfl⟩ := trodVars_none hV
  have k0 := h0
  have lt0 : ∀ x ∈ p0, x.block < W.heap.size := by obtain ⟨m, hm⟩ := k0; exact DataW.trod_lt m _ _ _ hm
  have k1 := h1
  have lt1 : ∀ x ∈ p1, x.block < W.heap.size := by obtain ⟨m, hm⟩ := k1; exact DataW.trod_lt m _ _ _ hm
  have k2 := h2
  have lt2 : ∀ x ∈ p2, x.block < W.heap.size := by obtain ⟨m, hm⟩ := k2; exact DataW.trod_lt m _ _ _ hm
  obtain ⟨l0, y0, wl0⟩ := open_bytes Try.underlying38 Try.underlying5 (by kernel_rfl) (hval 0 _ v0 rfl rfl) h0
  obtain ⟨a1, rfl, -, -, wa1⟩ := open_int Try.underlying3 (hval 1 _ v1 rfl rfl) h1
  obtain ⟨l2, y2, wl2⟩ := open_boolsL Try.underlying39 Try.underlying4 (by kernel_rfl) (hval 2 _ v2 rfl rfl) h2
  refine (walk (w := W) v0 l0 y0 wl0 a1 wa1 v2 l2 y2 wl2).mono fun e W' ⟨he, bel⟩ => ?_
  subst he
  exact ⟨_, rfl, _, _, _, [], _, [], hW', trodAll_mk1 (shut_bool Try.underlying4 _), (trodAll_cons_mk (Below.trod laidOut (by kernel_rfl) (of_decide_eq_true (by kernel_rfl)) k0 bel lt0) (trodAll_cons_mk (Below.trod laidOut (by kernel_rfl) (of_decide_eq_true (by kernel_rfl)) k1 bel lt1) (trodAll_cons_mk (Below.trod laidOut (by kernel_rfl) (of_decide_eq_true (by kernel_rfl)) k2 bel lt2) trodAll_mk0))), rfl, bel.frame _, fun h => by cases h⟩

theorem proved : Rows.DiskCutsSaid :=
  OpenClaim.holds_of_wide 4 Try.f4 rfl rfl rfl rfl rfl rfl rfl ⟨rfl, rfl, rfl, rfl, rfl⟩ rfl rfl rfl rfl rfl (by kernel_rfl) Try.func4 (by kernel_rfl)
    (of_decide_eq_true (by kernel_rfl)) (by unfold Func.isWrapper; first | (rw [if_pos (by decide +kernel)]; kernel_rfl) | (rw [if_neg (by decide +kernel)]; exact ⟨rfl, rfl⟩))
    (fun os started H enc _ => lifted os started H enc)
end Go.Proofs.Ytobcfocbglkicaa.diskCuts
