/- Walk of the ring over a disk: Newest. -/
import Derived.Test.YtobcfocbglkicaaRgC
set_option linter.unusedVariables false
set_option maxRecDepth 100000
namespace Go.Proofs.Ytobcfocbglkicaa
open Go.RowKit

theorem newest_dead {D : DK} (h : D.dead = true) : D.newest = (⟨0, []⟩, 51) := by unfold DK.newest; rw [if_pos h]
section
variable {W w : World} {loc : List (Nat × Obj)} {ds : List (Nat × DK)} {g : Nat} {D : DK}
set_option maxHeartbeats 16000000 in
theorem newest_l (i : Nat) (h : DSt W loc ds w) (hi : ds[i]? = some (g, D)) (hwl : D.wt.length ≤ 1000000) :
    Calls Try.prog 52 #[.pointer (some ⟨g, 0, none⟩)] w fun e w' => e = .returned (roV D.newest) ∧ DSt W loc ds w' := by
  have hok := h.ok hi
  have n0 := hok.n0
  have h1 := h.alloc (.cells (rtC ⟨0, []⟩) 29 (0, 0))
  have hnd : D.dead = false → D.newest = if (nwN D 2).t = 0 then (⟨0, []⟩, 5) else (nwN D 2, 0) := fun h => by unfold DK.newest; rw [if_neg (by simp [h])]
  have hdd : D.dead = true → D.newest = (⟨0, []⟩, 51) := newest_dead
  have hstep : ∀ j, nwN D (j + 1) = nwStep D (nwN D j) j := fun _ => rfl
  obtain ⟨R, hR⟩ : ∃ R, R = D.newest := ⟨_, rfl⟩
  rw [← hR] at hnd hdd ⊢
  clear hR
  obtain ⟨NW, hNW⟩ : ∃ NW : Nat → RoT, NW = nwN D := ⟨_, rfl⟩
  have n00 : NW 0 = ⟨0, []⟩ := by rw [hNW]; rfl
  rw [← hNW] at hnd hstep
  clear hNW
  have FD := Lib.hid hdd
  have FN := Lib.hid hnd
  have FS := Lib.hid hstep
  have N0 := Lib.hid n00
  clear hdd hnd hstep n00
  go_enter Try.func52, Try.ntmps52
  go_upto_region 3 with (refine wpList_al rfl 29 rfl alloc_rt ?_; simp only [Act.put])
  try simp only [List.setIfInBounds_toArray, List.set_cons_zero, List.set_cons_succ]
  change Code.wp _ _ _ _ (w.alloc (.cells (rtC ⟨0, []⟩) 29 (0, 0)))
  generalize w.alloc (.cells (rtC ⟨0, []⟩) 29 (0, 0)) = V at *
  generalize w.heap.size = g2 at *
  have h2 := Lib.hid (h1.alloc (.cells (rtC ⟨0, []⟩) 29 (0, 0)))
  clear h1
  go_upto_region 4 with (refine wpList_al rfl 29 rfl alloc_rt ?_; simp only [Act.put])
  try simp only [List.setIfInBounds_toArray, List.set_cons_zero, List.set_cons_succ]
  change Code.wp _ _ _ _ (V.alloc (.cells (rtC ⟨0, []⟩) 29 (0, 0)))
  generalize V.alloc (.cells (rtC ⟨0, []⟩) 29 (0, 0)) = V' at *
  generalize V.heap.size = g4 at *
  rw [← N0.out] at h2
  go_wp2_with fail
  go_loopw [12] (fun c wr => ∃ j : Nat, j ≤ 2 ∧ c = .int .i64 j ∧ (D.dead = true → j = 0) ∧ Hid (DSt W ((g4, .cells (rtC (NW j)) 29 (0, 0)) :: (g2, .cells (rtC ⟨0, []⟩) 29 (0, 0)) :: loc) ds wr)) (fun c _ => 2 - (intOf c).toNat)
  case atStart => exact ⟨0, by omega, rfl, fun _ => rfl, by rw [N0.out] at h2 ⊢; exact h2⟩
  case round =>
    clear h2
    obtain ⟨j, hj, rfl, hdj, H⟩ := hrel
    by_cases hj2 : j < 2
    · cases hd : D.dead with
      | true =>
        obtain rfl := hdj hd
        have rd : D.read 0 = (zB, 51) := by
          have : D.askAt 0 = 51 := by unfold DK.askAt; rw [if_pos hd]
          unfold DK.read
          rw [this]
          rfl
        have RD := Lib.hid rd
        have hR := Lib.hid (FD.out hd)
        clear rd hdj hj hd FD FN FS
        go_wp2_with fail
        refine (read_e i H.out.drop.drop hi 0 zB 51 RD.out hwl).mono ?_
        rintro e w1 ⟨rfl, -, k1⟩
        have ST := Lib.hid (st_blkn zB zB_length w1)
        have h2 := Lib.hid ((H.out.ext k1).alloc (.cells (bvs zB).toArray 25 (0, 0)))
        clear H k1 RD
        go_upto_region 8 with (first | (refine wpList_al rfl 25 rfl alloc_blk ?_; simp only [Act.put]) | (refine wpList_st rfl 25 _ _ rfl ST.out ?_; simp only [Act.put]))
        try simp only [List.setIfInBounds_toArray, List.set_cons_zero, List.set_cons_succ]
        change Code.wp _ _ _ _ (w1.alloc (.cells (bvs zB).toArray 25 (0, 0)))
        generalize w1.alloc (.cells (bvs zB).toArray 25 (0, 0)) = V1 at *
        generalize w1.heap.size = g6 at *
        clear ST
        have hg2 := h2.out.get 2 rfl
        have ST := Lib.hid (st_rt (r := ⟨0, []⟩) hg2)
        have Hg := Lib.hid (setRow_heap _ _ _ (rtC ⟨0, []⟩) _ _ hg2)
        have H3 := Lib.hid (h2.out.row 2 rfl (rtC ⟨0, []⟩)).drop.drop.drop
        clear hg2 h2
        go_wp2_with (first | (refine wpList_bd rfl 29 rfl build_rt ?_; simp only [Act.put]) | (refine wpList_st rfl 29 _ _ rfl ST.out ?_; simp only [Act.put]))
        exact bodyPost_ret (results_cell_tmp Try.results52 _ _ _ _ _ _ _ rfl Hg.out Try.underlying29 rfl (by rw [info_rt]; rfl)) rfl ⟨by rw [hR.out]; rfl, H3.out⟩
      | false =>
        have lB := hok.at (j : Int)
        have rd : D.read (j : Int) = (D.at (j : Int), 0) := by
          have : D.askAt (j : Int) = 0 := by unfold DK.askAt; rw [if_neg (by simp [hd]), if_pos (by omega)]
          unfold DK.read
          rw [if_pos this]
        have hs := FS.out j
        unfold nwStep at hs
        generalize D.at (j : Int) = B at *
        have RD := Lib.hid rd
        clear rd
        have ko := fun w => rgOpen_any B lB w
        unfold roV at ko
        generalize rkO B = O at *
        obtain ⟨⟨ot, ol⟩, oe⟩ := O
        simp only at hs ko
        have KO := Lib.hid ko
        have HS := Lib.hid hs
        clear hs ko
        clear hdj
        go_wp2_with fail
        refine (read_e i H.out.drop.drop hi (j : Int) B 0 RD.out hwl).mono ?_
        rintro e w1 ⟨rfl, -, k1⟩
        have ST := Lib.hid (st_blkn B lB w1)
        have h2 := Lib.hid ((H.out.ext k1).alloc (.cells (bvs B).toArray 25 (0, 0)))
        clear H k1 RD
        go_upto_region 8 with (first | (refine wpList_al rfl 25 rfl alloc_blk ?_; simp only [Act.put]) | (refine wpList_st rfl 25 _ _ rfl ST.out ?_; simp only [Act.put]))
        try simp only [List.setIfInBounds_toArray, List.set_cons_zero, List.set_cons_succ]
        change Code.wp _ _ _ _ (w1.alloc (.cells (bvs B).toArray 25 (0, 0)))
        generalize w1.alloc (.cells (bvs B).toArray 25 (0, 0)) = V1 at *
        generalize w1.heap.size = g6 at *
        clear ST
        have hb6 : V1.heap[g6]? = some (.cells (bvs B).toArray 25 (0, 0)) := h2.out.get 0 rfl
        have L6 := Lib.hid (ld_blk hb6 lB)
        clear hb6
        go_wp2_with (refine wpList_ld rfl 25 (.tmp 6) rfl L6.out ?_; simp only [Act.put])
        refine (KO.out _).mono ?_
        rintro e w2 ⟨rfl, k2⟩
        have ST := Lib.hid (st_rtn ⟨ot, ol⟩ w2)
        have h3 := Lib.hid ((h2.out.ext k2).alloc (.cells (rtC ⟨ot, ol⟩) 29 (0, 0)))
        clear h2 k2 L6 KO
        go_upto_region 11 with (first | (refine wpList_al rfl 29 rfl alloc_rt ?_; simp only [Act.put]) | (refine wpList_st rfl 29 _ _ rfl ST.out ?_; simp only [Act.put]))
        try simp only [List.setIfInBounds_toArray, List.set_cons_zero, List.set_cons_succ]
        change Code.wp _ _ _ _ (w2.alloc (.cells (rtC ⟨ot, ol⟩) 29 (0, 0)))
        generalize w2.alloc (.cells (rtC ⟨ot, ol⟩) 29 (0, 0)) = V2 at *
        generalize w2.heap.size = g8 at *
        clear ST
        by_cases hE : oe = 0
        · subst hE
          have c8 : V2.cell? ⟨g8, 0, none⟩ = some (.int .i64 ot) := by rw [cell_of_row _ _ _ _ _ _ (h3.out.get 0 rfl)]; rfl
          go_wp2_with fail
          refine (rgPlace_any ot _).mono ?_
          rintro e w3 ⟨rfl, k3⟩
          have h4 := h3.out.ext k3
          have b8 : w3.heap[g8]? = some (.cells (rtC ⟨ot, ol⟩) 29 (0, 0)) := h4.get 0 rfl
          have b4 : w3.heap[g4]? = some (.cells (rtC (NW j)) 29 (0, 0)) := h4.get 2 rfl
          have c8' : w3.cell? ⟨g8, 0, none⟩ = some (.int .i64 ot) := by rw [cell_of_row _ _ _ _ _ _ b8]; rfl
          have c4' : w3.cell? ⟨g4, 0, none⟩ = some (.int .i64 (NW j).t) := by rw [cell_of_row _ _ _ _ _ _ b4]; rfl
          clear c8 h3 k3
          by_cases hP : placeR ot = (j : Int)
          · by_cases hT : (NW j).t < ot
            · have hn : NW (j + 1) = ⟨ot, ol⟩ := by rw [HS.out]; simp [hP, hT]
              have LD := Lib.hid (ld_rt b8)
              have ST := Lib.hid (st_rt (r := ⟨ot, ol⟩) b4)
              have h5 : DSt W ((g4, .cells (rtC (NW (j + 1))) 29 (0, 0)) :: (g2, .cells (rtC ⟨0, []⟩) 29 (0, 0)) :: loc) ds (w3.setRow g4 (rtC ⟨ot, ol⟩)) := by rw [hn]; exact (h4.row 2 rfl (rtC ⟨ot, ol⟩)).drop.drop
              have H5 := Lib.hid h5
              clear h5 b8 b4 h4 hn HS
              go_wp2_with (first | (refine wpList_ld rfl 29 (.tmp 8) rfl LD.out ?_; simp only [Act.put]) | (refine wpList_st rfl 29 _ _ rfl ST.out ?_; simp only [Act.put]))
              go_roundw
              case rel => exact ⟨j + 1, by omega, by simp, fun h => by first | cases h | (rw [hd] at h; cases h), H5⟩
              case measure => first | (simp [intOf]; done) | (simp [intOf]; omega)
            · have hn : NW (j + 1) = NW j := by rw [HS.out, if_neg fun h => hT h.2.2]
              have H5 := Lib.hid h4.drop.drop
              rw [← hn] at H5
              clear b8 b4 h4 hn HS
              go_wp2_with fail
              go_roundw
              case rel => exact ⟨j + 1, by omega, by simp, fun h => by first | cases h | (rw [hd] at h; cases h), H5⟩
              case measure => first | (simp [intOf]; done) | (simp [intOf]; omega)
          · have hn : NW (j + 1) = NW j := by rw [HS.out, if_neg fun h => hP h.2.1]
            have H5 := Lib.hid h4.drop.drop
            rw [← hn] at H5
            have z1 : (placeR ot == (j : Int)) = false := beq_eq_false_iff_ne.2 hP
            clear b8 b4 h4 hn HS
            go_wp2_with fail
            go_roundw
            case rel => exact ⟨j + 1, by omega, by simp, fun h => by first | cases h | (rw [hd] at h; cases h), H5⟩
            case measure => first | (simp [intOf]; done) | (simp [intOf]; omega)
        · have hn : NW (j + 1) = NW j := by rw [HS.out, if_neg fun h => hE h.1]
          have H5 := Lib.hid h3.out.drop.drop
          rw [← hn] at H5
          have z1 : (oe == 0) = false := beq_eq_false_iff_ne.2 hE
          clear h3 hn HS
          go_wp2_with fail
          go_roundw
          case rel => exact ⟨j + 1, by omega, by simp, fun h => by first | cases h | (rw [hd] at h; cases h), H5⟩
          case measure => first | (simp [intOf]; done) | (simp [intOf]; omega)
    · obtain rfl : j = 2 := by omega
      have hd : D.dead = false := by
        cases h : D.dead with
        | false => rfl
        | true => exact absurd (hdj h) (by omega)
      have hR := FN.out hd
      have b2 : wr.heap[g2]? = some (.cells (rtC ⟨0, []⟩) 29 (0, 0)) := H.out.get 1 rfl
      have b4 : wr.heap[g4]? = some (.cells (rtC (NW 2)) 29 (0, 0)) := H.out.get 0 rfl
      have c4 : wr.cell? ⟨g4, 0, none⟩ = some (.int .i64 (NW 2).t) := by rw [cell_of_row _ _ _ _ _ _ b4]; rfl
      have hlt : (NW 2).t = 0 ∨ (NW 2).t ≠ 0 := Classical.em _
      generalize NW 2 = X at *
      obtain ⟨xt, xl⟩ := X
      simp only at hR c4 hlt
      clear hdj FN FD FS N0
      rcases hlt with h0 | h0
      · subst h0
        rw [if_pos rfl] at hR
        have HR := Lib.hid hR
        have ST := Lib.hid (st_rt (r := ⟨0, []⟩) b2)
        have Hg := Lib.hid (setRow_heap _ _ _ (rtC ⟨0, []⟩) _ _ b2)
        have H3 := Lib.hid (H.out.row 1 rfl (rtC ⟨0, []⟩)).drop.drop
        clear hR b2 b4 H
        go_wp2_with (first | (refine wpList_bd rfl 29 rfl build_rt ?_; simp only [Act.put]) | (refine wpList_st rfl 29 _ _ rfl ST.out ?_; simp only [Act.put]))
        exact bodyPost_ret (results_cell_tmp Try.results52 _ _ _ _ _ _ _ rfl Hg.out Try.underlying29 rfl (by rw [info_rt]; rfl)) rfl ⟨by rw [HR.out]; rfl, H3.out⟩
      · rw [if_neg h0] at hR
        have HR := Lib.hid hR
        have LD := Lib.hid (ld_rt b4)
        have ST := Lib.hid (st_rt (r := ⟨xt, xl⟩) b2)
        have Hg := Lib.hid (setRow_heap _ _ _ (rtC ⟨xt, xl⟩) _ _ b2)
        have H3 := Lib.hid (H.out.row 1 rfl (rtC ⟨xt, xl⟩)).drop.drop
        have z1 : (xt == 0) = false := beq_eq_false_iff_ne.2 h0
        clear hR b2 b4 H
        go_wp2_with (first | (refine wpList_ld rfl 29 (.tmp 4) rfl LD.out ?_; simp only [Act.put]) | (refine wpList_st rfl 29 _ _ rfl ST.out ?_; simp only [Act.put]))
        exact bodyPost_ret (results_cell_tmp Try.results52 _ _ _ _ _ _ _ rfl Hg.out Try.underlying29 rfl (by rw [info_rt]; rfl)) rfl ⟨by rw [HR.out]; rfl, H3.out⟩
end
end Go.Proofs.Ytobcfocbglkicaa
