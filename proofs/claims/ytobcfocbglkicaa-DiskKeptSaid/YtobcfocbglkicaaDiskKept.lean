/- Proved: DiskKept returns true whatever blocks that are flushed, whatever blocks that are written then, and whatever list of truth values it is called with, and each argument reads behind the call as before. No condition. -/
import Derived.Test.YtobcfocbglkicaaDkW
import Derived.Test.YtobcfocbglkicaaDkN
import Derived.Test.YtobcfocbglkicaaDkP
import Derived.Test.YtobcfocbglkicaaLift
import Derived.Deep.DeepCutAuto
set_option linter.unusedVariables false
set_option maxRecDepth 100000
namespace Go.Proofs.Ytobcfocbglkicaa.diskKept
open Go.RowKit Go.ChangeShapes Go.WideShapes Go.ChangeAt Go.Deep Go.Proofs.Ytobcfocbglkicaa

set_option maxHeartbeats 16000000 in
theorem walk {w : World} (vl : Value) (l : List UInt8) (hl : RS w vl l) (hlm : l.length ≤ maxLen) (vm : Value) (m : List UInt8) (hm : RS w vm m) (hmm : m.length ≤ maxLen) (vk : Value) (keep : List Bool) (hk : RBo w vk keep) (hkm0 : (∀ b off n c, vk = .slice (some ⟨b, off, none⟩) n c → b < w.heap.size) ∧ keep.length ≤ maxLen) :
    Calls Try.prog 5 #[vl, vm, vk] w fun e w' => e = .returned (.bool true) ∧ Below w.heap.size w w' := by
  obtain ⟨hkb, hkm⟩ := hkm0
  clear hkb
  unfold maxLen at hlm hmm hkm
  obtain ⟨A, c, rfl, hcell⟩ := hl.at (Ext.refl w)
  obtain ⟨A2, c2, rfl, hcell2⟩ := hm.at (Ext.refl w)
  obtain ⟨kA, kc, rfl⟩ := hk.form
  by_cases g1 : 200 < l.length
  · skip
    go_enter Try.func5, Try.ntmps5
    go_wp2_with (go_at_call 22; refine (dworks_any _).mono ?_; rintro e w0 ⟨rfl, hb0⟩; have hz0 := hb0.size; (try simp only [World.size_alloc] at hz0))
    go_ret
    exact ⟨rfl, by (repeat' (first | (with_reducible assumption) | (with_reducible exact Below.refl _ _) | (with_reducible refine below_sc ?_ ?_) | ((with_reducible show (_ : Nat) ≤ _); omega) | refine Below.setCell ?_ (by first | omega | (simp; done) | (simp; omega)) _ | refine Below.alloc ?_ (by first | omega | (simp; done) | (simp; omega)) _ | refine Below.drew ?_ | refine below_drewN ?_ _ | refine Below.trans ?_ (Below.mono (by assumption) (by first | omega | (simp; done) | (simp; omega)))))⟩
  by_cases g2 : 200 < m.length
  · skip
    go_enter Try.func5, Try.ntmps5
    go_wp2_with (go_at_call 22; refine (dworks_any _).mono ?_; rintro e w0 ⟨rfl, hb0⟩; have hz0 := hb0.size; (try simp only [World.size_alloc] at hz0))
    go_ret
    exact ⟨rfl, by (repeat' (first | (with_reducible assumption) | (with_reducible exact Below.refl _ _) | (with_reducible refine below_sc ?_ ?_) | ((with_reducible show (_ : Nat) ≤ _); omega) | refine Below.setCell ?_ (by first | omega | (simp; done) | (simp; omega)) _ | refine Below.alloc ?_ (by first | omega | (simp; done) | (simp; omega)) _ | refine Below.drew ?_ | refine below_drewN ?_ _ | refine Below.trans ?_ (Below.mono (by assumption) (by first | omega | (simp; done) | (simp; omega)))))⟩
  by_cases g3 : 1000 < keep.length
  · skip
    go_enter Try.func5, Try.ntmps5
    go_wp2_with (go_at_call 22; refine (dworks_any _).mono ?_; rintro e w0 ⟨rfl, hb0⟩; have hz0 := hb0.size; (try simp only [World.size_alloc] at hz0))
    go_ret
    exact ⟨rfl, by (repeat' (first | (with_reducible assumption) | (with_reducible exact Below.refl _ _) | (with_reducible refine below_sc ?_ ?_) | ((with_reducible show (_ : Nat) ≤ _); omega) | refine Below.setCell ?_ (by first | omega | (simp; done) | (simp; omega)) _ | refine Below.alloc ?_ (by first | omega | (simp; done) | (simp; omega)) _ | refine Below.drew ?_ | refine below_drewN ?_ _ | refine Below.trans ?_ (Below.mono (by assumption) (by first | omega | (simp; done) | (simp; omega)))))⟩
  have b1 : decide ((200 : Int) < (l.length : Int)) = false := by rw [decide_eq_false_iff_not]; omega
  have b2 : decide ((200 : Int) < (m.length : Int)) = false := by rw [decide_eq_false_iff_not]; omega
  have b3 : decide ((1000 : Int) < (keep.length : Int)) = false := by rw [decide_eq_false_iff_not]; omega
  have Hc := Lib.hid hcell
  have Hc2 := Lib.hid hcell2
  have Hk := Lib.hid hk
  clear hl hm hk hcell hcell2
  go_enter Try.func5, Try.ntmps5
  go_wp2_with fail
  refine (dworks_any _).mono ?_
  rintro e w1 ⟨rfl, hb1⟩
  go_wp2_with fail
  refine (new_l ((St.start w).ext hb1) 64 (by omega) (by omega)).mono ?_
  rintro e w2 ⟨g, rfl, h2⟩
  have h3 := h2.alloc (.cells (bvs z64).toArray 53 (0, 0))
  replace h3 : St w [(w2.heap.size, .cells (bvs z64).toArray 53 (0, 0))] [(g, ⟨64, [], [], 0, [], false⟩)] _ := h3
  have H3 := Lib.hid h3
  clear hb1 h2 h3
  go_upto_region 7 with (refine wpList_al rfl 53 rfl alloc_64 ?_; simp only [Act.put])
  try simp only [List.setIfInBounds_toArray, List.set_cons_zero, List.set_cons_succ]
  generalize w2.alloc (.cells (bvs z64).toArray 53) = V3 at *
  generalize w2.heap.size = gw at *
  go_wp2_with fail
  go_loopw [10] (fun i wr => ∃ j : Nat, j ≤ l.length ∧ i = .int .i64 j ∧ ∃ wt a, wt.length = j ∧ Arr wt a ∧ Hid (St w [(gw, .cells (bvs a).toArray 53 (0, 0))] [(g, ⟨64, [], wt, 0, [], false⟩)] wr)) (fun i _ => l.length - (intOf i).toNat)
  case atStart => exact ⟨0, Nat.zero_le _, rfl, [], z64, rfl, arr_zero, H3⟩
  case round =>
    obtain ⟨j, hj, rfl, wt, a, hwt, ha, H⟩ := hrel
    by_cases hjl : j < l.length
    · obtain ⟨b, off, rfl, hlc, hlt, hcell⟩ := Hc.out j hjl
      obtain ⟨z, hz, hz4⟩ : ∃ z : Nat, (l[j].toNat : Int) % 64 = (z : Int) ∧ z < 64 := ⟨l[j].toNat % 64, by omega, by omega⟩
      unfold bv at hcell
      have cx : wr.cell? ⟨b, off + j, none⟩ = some (.int .u8 (l[j].toNat : Int)) := (Below.cell (p := ⟨b, off + j, none⟩) H.out.bel hlt).trans hcell
      obtain ⟨cw, fw⟩ := H.out.cellb 0 rfl (z := z) (by have := ha.len; omega)
      have hd : (j : Int) % 100 + 1 = ((UInt8.ofNat (j % 100 + 1)).toNat : Int) := by rw [← u8_ofNat (by omega)]; omega
      have hd0 := u8_ne (n := j % 100 + 1) (by omega) (by omega)
      obtain ⟨d, hd1⟩ : ∃ d, d = UInt8.ofNat (j % 100 + 1) := ⟨_, rfl⟩
      rw [← hd1] at hd hd0
      clear hd1
      go_upto_region 11 with fail
      obtain ⟨e1, h4⟩ := H.out.byte 0 rfl z (d := d) rfl
      rw [e1]
      replace h4 : St w [(gw, .cells (bvs (a.set z d)).toArray 53 (0, 0))] [(g, ⟨64, [], wt, 0, [], false⟩)] _ := h4
      clear cx cw fw e1
      generalize wr.setRow gw (bvs (a.set z d)).toArray = V at *
      have e1 : ∀ ψ (e : ExtP V.heap.size V ψ), e.val.cell? ⟨b, off + j, none⟩ = some (.int .u8 (l[j].toNat : Int)) := fun ψ e => e.cell ((Below.cell (p := ⟨b, off + j, none⟩) h4.bel hlt).trans hcell) (Nat.lt_of_lt_of_le hlt (Below.size h4.bel))
      refine wp_region_pieces 12  [(true, [0, 1, 2, 3, 4, 5, 6, 7, 8, 9, 10, 11])] (by kernel_rfl) (by kernel_rfl) ?_; simp only [pick, List.map_cons, List.map_nil, List.flatMap_cons, List.flatMap_nil, Option.toList_some, List.singleton_append, List.drop_succ_cons, List.drop_zero, List.getElem?_cons_zero, List.getElem?_cons_succ]
      refine ⟨by kernel_rfl, ?_⟩; apply Exists.intro; refine ⟨fun ψ hψ hne => (by (repeat (first | ( fail ) | go_big_quiet_step ((  go_at_call 27; exact extP_of hψ (Nat.le_refl _) (block_any d _ (by first | exact hd | rfl) _) )))); exact wpQuiet_nil rfl), ?_⟩
      intro V2 hV2
      clear e1
      go_wp2_with fail
      refine (write_k 0 (h4.ext hV2) rfl _ (blkC_length _) _ _ (DK.write_go (by omega) (by omega)) (by simp) (by dsimp only; omega)).mono ?_
      rintro e w4 ⟨rfl, h5⟩
      replace h5 : St w [(gw, .cells (bvs (a.set z d)).toArray 53 (0, 0))] [(g, ⟨64, [], wt ++ [((z : Int), blkC d)], 0, [], false⟩)] w4 := h5
      clear h4
      go_wp2_with fail
      go_roundw
      case rel => exact ⟨j + 1, hjl, by simp, wt ++ [((z : Int), blkC d)], a.set z d, by rw [List.length_append, List.length_singleton, hwt], ha.upd hz4 hd0, Lib.hid h5⟩
      case measure => first | (simp [intOf]; done) | (simp [intOf]; omega)
    · have hwl : wt.length ≤ 200 := by omega
      clear H3 Hc hwt
      go_wp2_with fail
      refine (flush_k 0 H.out rfl _ _ DK.flush_go (by simp) (by dsimp only; omega)).mono ?_
      rintro e w3 ⟨rfl, h3⟩
      go_wp2_with fail
      refine (waiting_k 0 h3 rfl 0 (by rfl)).mono ?_
      rintro e w4 ⟨rfl, h4⟩
      have la := ha.len
      replace h4 : St w [(gw, .cells (bvs a).toArray 53 (0, 0))] [(g, ⟨64, wt, [], 0, [], false⟩)] w4 := h4
      have LD := Lib.hid (ld_64 (h4.get 0 rfl) la)
      have ST := Lib.hid (st_64n a la w4)
      have h5 := h4.alloc (.cells (bvs a).toArray 53 (0, 0))
      go_upto_region 16 with (first | (refine wpList_ld rfl 53 _ rfl LD.out ?_; simp only [Act.put]) | (refine wpList_al rfl 53 rfl alloc_64 ?_; simp only [Act.put]) | (refine wpList_st rfl 53 _ _ rfl ST.out ?_; simp only [Act.put]))
      try simp only [List.setIfInBounds_toArray, List.set_cons_zero, List.set_cons_succ]
      generalize w4.alloc (.cells (bvs a).toArray 53) = V5 at *
      generalize w4.heap.size = gx at *
      clear ST LD
      have LD := Lib.hid (ld_64 (h5.get 1 rfl) la)
      have ST := Lib.hid (st_64n a la V5)
      have h6 := h5.alloc (.cells (bvs a).toArray 53 (0, 0))
      go_upto_region 17 with (first | (refine wpList_ld rfl 53 _ rfl LD.out ?_; simp only [Act.put]) | (refine wpList_al rfl 53 rfl alloc_64 ?_; simp only [Act.put]) | (refine wpList_st rfl 53 _ _ rfl ST.out ?_; simp only [Act.put]))
      try simp only [List.setIfInBounds_toArray, List.set_cons_zero, List.set_cons_succ]
      generalize V5.alloc (.cells (bvs a).toArray 53) = V6 at *
      generalize V5.heap.size = gy at *
      have H6 := Lib.hid h6
      clear ST LD h3 h4 h5 h6 H
      have hs0 : Arr (wt ++ kept keep []) a := by rw [show wt ++ kept keep [] = wt by simp [kept]]; exact ha
      have hs1 : Arr (wt ++ []) a := by rw [List.append_nil]; exact ha
      go_wp2_with fail
      go_loopw [13] (fun i wr => ∃ j : Nat, j ≤ m.length ∧ i = .int .i64 j ∧ ∃ w2 x y, w2.length = j ∧ Arr (wt ++ kept keep w2) x ∧ Arr (wt ++ w2) y ∧ Hid (St w [(gy, .cells (bvs y).toArray 53 (0, 0)), (gx, .cells (bvs x).toArray 53 (0, 0)), (gw, .cells (bvs a).toArray 53 (0, 0))] [(g, ⟨64, wt, w2, 0, [], false⟩)] wr)) (fun i _ => m.length - (intOf i).toNat)
      case atStart => exact ⟨0, Nat.zero_le _, rfl, [], a, a, rfl, hs0, hs1, H6⟩
      case round =>
        clear hs0 hs1 H6
        obtain ⟨j, hj, rfl, w2, x, y, hw2, hx, hy, H⟩ := hrel
        by_cases hjl : j < m.length
        · obtain ⟨b, off, rfl, hlc, hlt, hcell⟩ := Hc2.out j hjl
          obtain ⟨z, hz, hz4⟩ : ∃ z : Nat, (m[j].toNat : Int) % 64 = (z : Int) ∧ z < 64 := ⟨m[j].toNat % 64, by omega, by omega⟩
          unfold bv at hcell
          have hd : (j : Int) % 100 + 101 = ((UInt8.ofNat (j % 100 + 101)).toNat : Int) := by rw [← u8_ofNat (by omega)]; omega
          have hd0 := u8_ne (n := j % 100 + 101) (by omega) (by omega)
          obtain ⟨d, hd1⟩ : ∃ d, d = UInt8.ofNat (j % 100 + 101) := ⟨_, rfl⟩
          rw [← hd1] at hd hd0
          clear hd1
          have cx : wr.cell? ⟨b, off + j, none⟩ = some (.int .u8 (m[j].toNat : Int)) := (Below.cell (p := ⟨b, off + j, none⟩) H.out.bel hlt).trans hcell
          have lx := hx.len
          have ly := hy.len
          by_cases hjk : j < keep.length
          · have hkc : ∃ b' off', kA = some ⟨b', off', none⟩ ∧ keep.length ≤ kc ∧ wr.cell? ⟨b', off' + j, none⟩ = some (.bool keep[j]) := by
              rcases Hk.out with ⟨A', c', hv, h0⟩ | ⟨b', off', c', hv, hlt', hc', hcc⟩
              · rw [h0] at hjk; simp at hjk
              · simp only [Value.slice.injEq] at hv
                obtain ⟨rfl, -, rfl⟩ := hv
                exact ⟨b', off', rfl, hc', (Below.cell (p := ⟨b', off' + j, none⟩) H.out.bel hlt').trans (hcc j hjk)⟩
            obtain ⟨b', off', rfl, hkc, hkcell⟩ := hkc
            have hkj : keep.getD w2.length false = keep[j] := by rw [hw2]; simp [List.getD, hjk]
            cases hkb : keep[j] with
            | true =>
              rw [hkb] at hkcell hkj
              obtain ⟨cx1, fx1⟩ := H.out.cellb 1 rfl (z := z) (by omega)
              go_upto_region 23 with fail
              obtain ⟨e1, h3⟩ := H.out.byte 1 rfl z (d := d) rfl
              rw [e1]
              replace h3 : St w [(gy, .cells (bvs y).toArray 53 (0, 0)), (gx, .cells (bvs (x.set z d)).toArray 53 (0, 0)), (gw, .cells (bvs a).toArray 53 (0, 0))] [(g, ⟨64, wt, w2, 0, [], false⟩)] _ := h3
              clear cx1 fx1 e1 cx hkcell
              generalize wr.setRow gx (bvs (x.set z d)).toArray = V1 at *
              have cx : V1.cell? ⟨b, off + j, none⟩ = some (.int .u8 (m[j].toNat : Int)) := (Below.cell (p := ⟨b, off + j, none⟩) h3.bel hlt).trans hcell
              obtain ⟨cx1, fx1⟩ := h3.cellb 0 rfl (z := z) (by omega)
              go_upto_region 24 with fail
              obtain ⟨e1, h4⟩ := h3.byte 0 rfl z (d := d) rfl
              rw [e1]
              replace h4 : St w [(gy, .cells (bvs (y.set z d)).toArray 53 (0, 0)), (gx, .cells (bvs (x.set z d)).toArray 53 (0, 0)), (gw, .cells (bvs a).toArray 53 (0, 0))] [(g, ⟨64, wt, w2, 0, [], false⟩)] _ := h4
              clear cx1 fx1 e1 cx h3
              generalize V1.setRow gy (bvs (y.set z d)).toArray = V at *
              have e1 : ∀ ψ (e : ExtP V.heap.size V ψ), e.val.cell? ⟨b, off + j, none⟩ = some (.int .u8 (m[j].toNat : Int)) := fun ψ e => e.cell ((Below.cell (p := ⟨b, off + j, none⟩) h4.bel hlt).trans hcell) (Nat.lt_of_lt_of_le hlt (Below.size h4.bel))
              refine wp_region_pieces 9  [(true, [0, 1, 2, 3, 4, 5, 6, 7, 8])] (by kernel_rfl) (by kernel_rfl) ?_; simp only [pick, List.map_cons, List.map_nil, List.flatMap_cons, List.flatMap_nil, Option.toList_some, List.singleton_append, List.drop_succ_cons, List.drop_zero, List.getElem?_cons_zero, List.getElem?_cons_succ]
              refine ⟨by kernel_rfl, ?_⟩; apply Exists.intro; refine ⟨fun ψ hψ hne => (by (repeat (first | ( fail ) | go_big_quiet_step ((  go_at_call 27; exact extP_of hψ (Nat.le_refl _) (block_any d _ (by first | exact hd | rfl) _) )))); exact wpQuiet_nil rfl), ?_⟩
              intro V2 hV2
              clear e1
              go_wp2_with fail
              refine (write_k 0 (h4.ext hV2) rfl _ (blkC_length _) _ _ (DK.write_go (by omega) (by omega)) (by simp) (by dsimp only; omega)).mono ?_
              rintro e w4 ⟨rfl, h5⟩
              replace h5 : St w [(gy, .cells (bvs (y.set z d)).toArray 53 (0, 0)), (gx, .cells (bvs (x.set z d)).toArray 53 (0, 0)), (gw, .cells (bvs a).toArray 53 (0, 0))] [(g, ⟨64, wt, w2 ++ [((z : Int), blkC d)], 0, [], false⟩)] w4 := h5
              clear h4
              go_wp2_with fail
              go_roundw
              case rel => exact ⟨j + 1, hjl, by simp, w2 ++ [((z : Int), blkC d)], x.set z d, y.set z d, by rw [List.length_append, List.length_singleton, hw2], by rw [kept_snoc, hkj, if_pos rfl, ← List.append_assoc]; exact hx.upd hz4 hd0, by rw [← List.append_assoc]; exact hy.upd hz4 hd0, Lib.hid h5⟩
              case measure => first | (simp [intOf]; done) | (simp [intOf]; omega)
            | false =>
              rw [hkb] at hkcell hkj
              have h3 := H.out
              obtain ⟨cx1, fx1⟩ := h3.cellb 0 rfl (z := z) (by omega)
              go_upto_region 24 with fail
              obtain ⟨e1, h4⟩ := h3.byte 0 rfl z (d := d) rfl
              rw [e1]
              replace h4 : St w [(gy, .cells (bvs (y.set z d)).toArray 53 (0, 0)), (gx, .cells (bvs (x)).toArray 53 (0, 0)), (gw, .cells (bvs a).toArray 53 (0, 0))] [(g, ⟨64, wt, w2, 0, [], false⟩)] _ := h4
              clear cx1 fx1 e1 cx h3
              generalize wr.setRow gy (bvs (y.set z d)).toArray = V at *
              have e1 : ∀ ψ (e : ExtP V.heap.size V ψ), e.val.cell? ⟨b, off + j, none⟩ = some (.int .u8 (m[j].toNat : Int)) := fun ψ e => e.cell ((Below.cell (p := ⟨b, off + j, none⟩) h4.bel hlt).trans hcell) (Nat.lt_of_lt_of_le hlt (Below.size h4.bel))
              refine wp_region_pieces 9  [(true, [0, 1, 2, 3, 4, 5, 6, 7, 8])] (by kernel_rfl) (by kernel_rfl) ?_; simp only [pick, List.map_cons, List.map_nil, List.flatMap_cons, List.flatMap_nil, Option.toList_some, List.singleton_append, List.drop_succ_cons, List.drop_zero, List.getElem?_cons_zero, List.getElem?_cons_succ]
              refine ⟨by kernel_rfl, ?_⟩; apply Exists.intro; refine ⟨fun ψ hψ hne => (by (repeat (first | ( fail ) | go_big_quiet_step ((  go_at_call 27; exact extP_of hψ (Nat.le_refl _) (block_any d _ (by first | exact hd | rfl) _) )))); exact wpQuiet_nil rfl), ?_⟩
              intro V2 hV2
              clear e1
              go_wp2_with fail
              refine (write_k 0 (h4.ext hV2) rfl _ (blkC_length _) _ _ (DK.write_go (by omega) (by omega)) (by simp) (by dsimp only; omega)).mono ?_
              rintro e w4 ⟨rfl, h5⟩
              replace h5 : St w [(gy, .cells (bvs (y.set z d)).toArray 53 (0, 0)), (gx, .cells (bvs (x)).toArray 53 (0, 0)), (gw, .cells (bvs a).toArray 53 (0, 0))] [(g, ⟨64, wt, w2 ++ [((z : Int), blkC d)], 0, [], false⟩)] w4 := h5
              clear h4
              go_wp2_with fail
              go_roundw
              case rel => exact ⟨j + 1, hjl, by simp, w2 ++ [((z : Int), blkC d)], x, y.set z d, by rw [List.length_append, List.length_singleton, hw2], by rw [kept_snoc, hkj, if_neg (by simp), List.append_nil]; exact hx, by rw [← List.append_assoc]; exact hy.upd hz4 hd0, Lib.hid h5⟩
              case measure => first | (simp [intOf]; done) | (simp [intOf]; omega)
          · have hkj : keep.getD w2.length false = false := by rw [hw2]; simp [List.getD, hjk]
            have h3 := H.out
            obtain ⟨cx1, fx1⟩ := h3.cellb 0 rfl (z := z) (by omega)
            go_upto_region 24 with fail
            obtain ⟨e1, h4⟩ := h3.byte 0 rfl z (d := d) rfl
            rw [e1]
            replace h4 : St w [(gy, .cells (bvs (y.set z d)).toArray 53 (0, 0)), (gx, .cells (bvs (x)).toArray 53 (0, 0)), (gw, .cells (bvs a).toArray 53 (0, 0))] [(g, ⟨64, wt, w2, 0, [], false⟩)] _ := h4
            clear cx1 fx1 e1 cx h3
            generalize wr.setRow gy (bvs (y.set z d)).toArray = V at *
            have e1 : ∀ ψ (e : ExtP V.heap.size V ψ), e.val.cell? ⟨b, off + j, none⟩ = some (.int .u8 (m[j].toNat : Int)) := fun ψ e => e.cell ((Below.cell (p := ⟨b, off + j, none⟩) h4.bel hlt).trans hcell) (Nat.lt_of_lt_of_le hlt (Below.size h4.bel))
            refine wp_region_pieces 9  [(true, [0, 1, 2, 3, 4, 5, 6, 7, 8])] (by kernel_rfl) (by kernel_rfl) ?_; simp only [pick, List.map_cons, List.map_nil, List.flatMap_cons, List.flatMap_nil, Option.toList_some, List.singleton_append, List.drop_succ_cons, List.drop_zero, List.getElem?_cons_zero, List.getElem?_cons_succ]
            refine ⟨by kernel_rfl, ?_⟩; apply Exists.intro; refine ⟨fun ψ hψ hne => (by (repeat (first | ( fail ) | go_big_quiet_step ((  go_at_call 27; exact extP_of hψ (Nat.le_refl _) (block_any d _ (by first | exact hd | rfl) _) )))); exact wpQuiet_nil rfl), ?_⟩
            intro V2 hV2
            clear e1
            go_wp2_with fail
            refine (write_k 0 (h4.ext hV2) rfl _ (blkC_length _) _ _ (DK.write_go (by omega) (by omega)) (by simp) (by dsimp only; omega)).mono ?_
            rintro e w4 ⟨rfl, h5⟩
            replace h5 : St w [(gy, .cells (bvs (y.set z d)).toArray 53 (0, 0)), (gx, .cells (bvs (x)).toArray 53 (0, 0)), (gw, .cells (bvs a).toArray 53 (0, 0))] [(g, ⟨64, wt, w2 ++ [((z : Int), blkC d)], 0, [], false⟩)] w4 := h5
            clear h4
            go_wp2_with fail
            go_roundw
            case rel => exact ⟨j + 1, hjl, by simp, w2 ++ [((z : Int), blkC d)], x, y.set z d, by rw [List.length_append, List.length_singleton, hw2], by rw [kept_snoc, hkj, if_neg (by simp), List.append_nil]; exact hx, by rw [← List.append_assoc]; exact hy.upd hz4 hd0, Lib.hid h5⟩
            case measure => first | (simp [intOf]; done) | (simp [intOf]; omega)
        · obtain rfl : j = m.length := by omega
          clear Hc2
          have MK := fun w => mkBools w m.length (by omega)
          have h5 := H.out.alloc (.cells (bcs (List.replicate m.length false)).toArray 4 (0, 0))
          replace h5 : St w [(wr.heap.size, .cells (bcs (List.replicate 0 true ++ List.replicate (m.length - 0) false)).toArray 4 (0, 0)), (gy, .cells (bvs y).toArray 53 (0, 0)), (gx, .cells (bvs x).toArray 53 (0, 0)), (gw, .cells (bvs a).toArray 53 (0, 0))] [(g, ⟨64, wt, w2, 0, [], false⟩)] _ := h5
          have H5 := Lib.hid h5
          clear h5
          go_upto_region 27 with fail
          try simp only [List.setIfInBounds_toArray, List.set_cons_zero, List.set_cons_succ]
          generalize wr.alloc (.cells (bcs (List.replicate m.length false)).toArray 4 (0, 0)) = V7 at *
          generalize wr.heap.size = gk at *
          clear MK H
          go_wp2_with fail
          go_loopw [16] (fun i wr => ∃ j : Nat, j ≤ m.length ∧ i = .int .i64 j ∧ Hid (St w [(gk, .cells (bcs (List.replicate j true ++ List.replicate (m.length - j) false)).toArray 4 (0, 0)), (gy, .cells (bvs y).toArray 53 (0, 0)), (gx, .cells (bvs x).toArray 53 (0, 0)), (gw, .cells (bvs a).toArray 53 (0, 0))] [(g, ⟨64, wt, w2, 0, [], false⟩)] wr)) (fun i _ => m.length - (intOf i).toNat)
          case atStart => exact ⟨0, Nat.zero_le _, rfl, H5⟩
          case round =>
            obtain ⟨j, hj, rfl, H⟩ := hrel
            by_cases hjl : j < m.length
            · obtain ⟨ck, fk, ek, hk⟩ := H.out.yes 0 rfl hjl
              have EK := Lib.hid ek
              have HK := Lib.hid hk
              clear ek hk
              go_wp2_with fail
              rw [EK.out]
              go_roundw
              case rel => exact ⟨j + 1, hjl, by simp, HK⟩
              case measure => first | (simp [intOf]; done) | (simp [intOf]; omega)
            · obtain rfl : j = m.length := by omega
              rw [Nat.sub_self, List.replicate_zero, List.append_nil] at H
              have hkp : kept (List.replicate m.length true) w2 = w2 := kept_all _ _ (by omega)
              clear H5
              go_wp2_with fail
              refine (copy_l 0 H.out rfl (by simp) (by dsimp only; omega)).mono ?_
              rintro e w5 ⟨gn, rfl, h5⟩
              go_wp2_with fail
              refine (copy_l 1 h5 rfl (by simp) (by dsimp only; omega)).mono ?_
              rintro e w6 ⟨ge, rfl, h6⟩
              go_wp2_with fail
              refine (fail_k 2 h6 rfl keep (Hk.out.ext h6.bel) _ _ DK.fail_go (by omega) (by dsimp only; omega)).mono ?_
              rintro e w7 ⟨rfl, h7⟩
              go_wp2_with fail
              refine (fail_k 1 h7 rfl [] (.inl ⟨none, 0, rfl, rfl⟩) _ _ DK.fail_go (by simp) (by dsimp only; omega)).mono ?_
              rintro e w8 ⟨rfl, h8⟩
              have rb := h8.rb (l := List.replicate m.length true) 0 rfl
              rw [List.length_replicate] at rb
              go_wp2_with fail
              refine (fail_k 0 h8 rfl _ rb _ _ DK.fail_go (by simp; omega) (by dsimp only; omega)).mono ?_
              rintro e w9 ⟨rfl, h9⟩
              rw [hkp, kept_nil, List.append_nil] at h9
              replace h9 : St w [(gk, .cells (bcs (List.replicate m.length true)).toArray 4 (0, 0)), (gy, .cells (bvs y).toArray 53 (0, 0)), (gx, .cells (bvs x).toArray 53 (0, 0)), (gw, .cells (bvs a).toArray 53 (0, 0))] [(ge, ⟨64, wt ++ w2, [], 0, [], true⟩), (gn, ⟨64, wt, [], 0, [], true⟩), (g, ⟨64, wt ++ kept keep w2, [], 0, [], true⟩)] w9 := h9
              replace h9 := h9.drop
              clear h5 h6 h7 h8 rb hkp
              go_wp2_with fail
              refine (booted_l 2 h9 rfl rfl).mono ?_
              rintro e w10 ⟨xa, rfl, h10⟩
              go_wp2_with fail
              refine (booted_l 2 h10 rfl rfl).mono ?_
              rintro e w11 ⟨xb, rfl, h11⟩
              go_wp2_with fail
              refine (booted_l 2 h11 rfl rfl).mono ?_
              rintro e w12 ⟨xc, rfl, h12⟩
              replace h12 : St w [(gy, .cells (bvs y).toArray 53 (0, 0)), (gx, .cells (bvs x).toArray 53 (0, 0)), (gw, .cells (bvs a).toArray 53 (0, 0))] [(xc, ⟨64, wt ++ w2, [], 0, [], false⟩), (xb, ⟨64, wt, [], 0, [], false⟩), (xa, ⟨64, wt ++ kept keep w2, [], 0, [], false⟩)] w12 := ((h12.dropI 5).dropI 4).dropI 3
              have H12 := Lib.hid h12
              clear h9 h10 h11 h12 H
              go_wp2_with fail
              generalize wt ++ kept keep w2 = on1 at *
              generalize wt ++ w2 = on2 at *
              go_loopw [22] (fun i wr => ∃ j : Nat, j ≤ 64 ∧ i = .int .i64 j ∧ Hid (St w [(gy, .cells (bvs y).toArray 53 (0, 0)), (gx, .cells (bvs x).toArray 53 (0, 0)), (gw, .cells (bvs a).toArray 53 (0, 0))] [(xc, ⟨64, on2, [], 0, [], false⟩), (xb, ⟨64, wt, [], 0, [], false⟩), (xa, ⟨64, on1, [], 0, [], false⟩)] wr)) (fun i _ => 64 - (intOf i).toNat)
              case atStart => exact ⟨0, by omega, rfl, H12⟩
              case round =>
                obtain ⟨j, hj, rfl, H⟩ := hrel
                clear H12
                have lx := hx.len
                have ly := hy.len
                by_cases hj4 : j < 64
                · obtain ⟨c1, -⟩ := H.out.cellb 1 rfl (z := j) (by omega)
                  go_wp2_with fail
                  refine (is_k 2 H.out rfl _ x[j] _ true rfl (hx.isV (by omega)) (by simp)).mono ?_
                  rintro e w13 ⟨rfl, h13⟩
                  obtain ⟨c2, -⟩ := h13.cellb 2 rfl (z := j) (by omega)
                  clear c1
                  go_wp2_with fail
                  refine (is_k 1 h13 rfl _ a[j] _ true rfl (ha.isV (by omega)) (by simp)).mono ?_
                  rintro e w14 ⟨rfl, h14⟩
                  obtain ⟨c3, -⟩ := h14.cellb 0 rfl (z := j) (by omega)
                  clear c2
                  go_wp2_with fail
                  refine (is_k 0 h14 rfl _ y[j] _ true rfl (hy.isV (by omega)) (by simp)).mono ?_
                  rintro e w15 ⟨rfl, h15⟩
                  clear c3
                  go_wp2_with fail
                  go_roundw
                  case rel => exact ⟨j + 1, by omega, by simp, Lib.hid h15⟩
                  case measure => simp [intOf]; omega
                · go_wp2_with fail
                  go_ret
                  exact ⟨rfl, H.out.bel⟩

theorem own : ownKnob Try.prog.godebug = none := by kernel_rfl
theorem laidOut : laidOutB Try.prog = true := by kernel_rfl

set_option maxRecDepth 100000 in
theorem lifted (os : Os) (started : os.Started) (H : Type) (enc : TypeId × Value → H) :
    ReturnsInHanded {} Try.checked os 5 .any (Rows.diskKeptSpec.pre6 enc Try.prog Try.f5 Rows.diskKeptRow.domain false) (Rows.diskKeptSpec.post enc Try.prog Try.f5 false true false false) := by
  refine returnsInHanded_of_change (C := Try.checked) own started (by kernel_rfl) Try.func5
    (ChangeSpec.witness6 (enc := enc) (C := Try.checked) false ⟨#[], #[.slice none 0 0, .slice none 0 0, .slice none 0 0], []⟩ 8 (by kernel_rfl) (by kernel_rfl) (by kernel_rfl) (by kernel_rfl)) ?_
  intro W base args ds gs before hval0 hW hcnd _
  have hval : ∀ (j : Nat) t v, Try.f5.params[j]? = some t → args[j]? = some v → Value.okWide Try.prog W .any base t v := hval0
  have hW' := hW
  obtain ⟨p, q, hA0, hV, rfl, hfz, hnd⟩ := hW
  have hA : DataW.TrodAll enc Try.prog W 0 (fun _ => true) true Try.f5.params.toList args.toList ds p := hA0
  rw [Try.params5] at hA hval
  obtain ⟨v0, vs0, d0, ds0, p0, q0, hargs, rfl, rfl, h0, r0⟩ := trodAll_cons hA
  obtain ⟨v1, vs1, d1, ds1, p1, q1, rfl, rfl, rfl, h1, r1⟩ := trodAll_cons r0
  obtain ⟨v2, vs2, d2, ds2, p2, q2, rfl, rfl, rfl, h2, r2⟩ := trodAll_cons r1
  obtain ⟨rfl, rfl, rfl⟩ := trodAll_nil r2
  obtain rfl : args = #[v0, v1, v2] := by cases args; simp_all
  obtain ⟨rfl, rfl⟩ := trodVars_none hV
  have k0 := h0
  have lt0 : ∀ x ∈ p0, x.block < W.heap.size := by obtain ⟨m, hm⟩ := k0; exact DataW.trod_lt m _ _ _ hm
  have k1 := h1
  have lt1 : ∀ x ∈ p1, x.block < W.heap.size := by obtain ⟨m, hm⟩ := k1; exact DataW.trod_lt m _ _ _ hm
  have k2 := h2
  have lt2 : ∀ x ∈ p2, x.block < W.heap.size := by obtain ⟨m, hm⟩ := k2; exact DataW.trod_lt m _ _ _ hm
  obtain ⟨l0, y0, wl0⟩ := open_bytes Try.underlying38 Try.underlying5 (by kernel_rfl) (hval 0 _ v0 rfl rfl) h0
  obtain ⟨l1, y1, wl1⟩ := open_bytes Try.underlying38 Try.underlying5 (by kernel_rfl) (hval 1 _ v1 rfl rfl) h1
  obtain ⟨l2, y2, wl2⟩ := open_boolsL Try.underlying39 Try.underlying4 (by kernel_rfl) (hval 2 _ v2 rfl rfl) h2
  refine (walk (w := W) v0 l0 y0 wl0 v1 l1 y1 wl1 v2 l2 y2 wl2).mono fun e W' ⟨he, bel⟩ => ?_
  subst he
  exact ⟨_, rfl, _, _, _, [], _, [], hW', trodAll_mk1 (shut_bool Try.underlying4 _), (trodAll_cons_mk (Below.trod laidOut (by kernel_rfl) (of_decide_eq_true (by kernel_rfl)) k0 bel lt0) (trodAll_cons_mk (Below.trod laidOut (by kernel_rfl) (of_decide_eq_true (by kernel_rfl)) k1 bel lt1) (trodAll_cons_mk (Below.trod laidOut (by kernel_rfl) (of_decide_eq_true (by kernel_rfl)) k2 bel lt2) trodAll_mk0))), rfl, bel.frame _, fun h => by cases h⟩

theorem proved : Rows.DiskKeptSaid :=
  OpenClaim.holds_of_wide 5 Try.f5 rfl rfl rfl rfl rfl rfl rfl ⟨rfl, rfl, rfl, rfl, rfl⟩ rfl rfl rfl rfl rfl (by kernel_rfl) Try.func5 (by kernel_rfl)
    (of_decide_eq_true (by kernel_rfl)) (by unfold Func.isWrapper; first | (rw [if_pos (by decide +kernel)]; kernel_rfl) | (rw [if_neg (by decide +kernel)]; exact ⟨rfl, rfl⟩))
    (fun os started H enc _ => lifted os started H enc)
end Go.Proofs.Ytobcfocbglkicaa.diskKept
