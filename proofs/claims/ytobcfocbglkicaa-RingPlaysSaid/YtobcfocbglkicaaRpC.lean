/- The document's ring: Newest; a root is put on both disks. -/
import Derived.Test.YtobcfocbglkicaaRpB
set_option linter.unusedVariables false
set_option maxRecDepth 100000
namespace Go.Proofs.Ytobcfocbglkicaa
open Go.RowKit

theorem info_rrt : (Try.prog.info? 23).map (·.size) = some 2 := by kernel_rfl
theorem alloc_rrt (w : World) : (Instr.alloc 23 true (.tuple #[])).run Try.prog w = .ok (.pointer (some ⟨w.heap.size, 0, none⟩)) (w.alloc (.cells (rtC ⟨0, []⟩) 23)) := by kernel_rfl
theorem build_rrt (w : World) : (Instr.build 23 #[]).run Try.prog w = .ok (.agg (rtC ⟨0, []⟩)) w := by kernel_rfl
theorem ld_rrt {w : World} {g : Nat} {T : TypeId} {fr : Nat × Nat} {r : RoT} (hg : w.heap[g]? = some (.cells (rtC r) T fr)) : (Instr.loadAt 23 (.pointer (some ⟨g, 0, none⟩))).run Try.prog w = .ok (.agg (rtC r)) w := by
  simp only [Instr.loadAt, Instr.sureAddr, Sem.run_bind, Sem.run_pure, Result.andThen]
  exact run_loadVar_row _ _ _ _ _ fr _ hg Try.underlying23 rfl (by rw [info_rrt]; rfl)
theorem st_rrt {w : World} {g : Nat} {T : TypeId} {r old : RoT} (hg : w.heap[g]? = some (.cells (rtC old) T (0, 0))) : (Instr.storeAt 23 (.pointer (some ⟨g, 0, none⟩)) (.agg (rtC r))).run Try.prog w = .ok () (w.setRow g (rtC r)) :=
  storeAt_row hg (by rw [info_rrt]; rfl) rfl (by simp [rtC, Value.oneCell'])
theorem st_rrtn (r : RoT) (w : World) : (Instr.storeAt 23 (.pointer (some ⟨w.heap.size, 0, none⟩)) (.agg (rtC r))).run Try.prog (w.alloc (.cells (rtC ⟨0, []⟩) 23)) = .ok () (w.alloc (.cells (rtC r) 23)) := by
  have st := st_rrt (r := r) (heap_alloc_last w (.cells (rtC ⟨0, []⟩) 23))
  rw [World.setRow_alloc_new] at st
  exact st
theorem rread_at {w w1 : World} {S : Nat → Prop} {g : Nat} {R : RF} (h : RfAt w S g R) (k : Ext w w1) (z : Int) (b : List UInt8) (e : Int) (he : R.read z = (b, e)) (hl : R.L.length ≤ 1000000) :
    Calls Try.prog 40 #[.pointer (some ⟨g, 0, none⟩), .int .i64 z] w1 fun r w' => r = .returned (.tuple #[.agg (bvs b).toArray, .int .i64 e]) ∧ Ext w1 w' := by
  have h1 : (R.read z).1 = b := by rw [he]
  have h2 : (R.read z).2 = e := by rw [he]
  rw [← h1, ← h2]
  exact rRead_any z w1 (h.ext k) hl
section
variable {S : Nat → Prop} {g : Nat} {R : RF} {D : DK}
set_option maxHeartbeats 16000000 in
theorem rnewest_any (w : World) (h : RfAt w S g R) (hrd : ∀ z, R.read z = D.read z) (hok : D.Ok) (hl : R.L.length ≤ 1000000) :
    Calls Try.prog 55 #[.pointer (some ⟨g, 0, none⟩)] w fun e w' => e = .returned (roV D.newest) ∧ Below w.heap.size w w' := by
  have n0 := hok.n0
  have h1 := (OSt.start w).alloc (.cells (rtC ⟨0, []⟩) 23 (0, 0))
  have HH := Lib.hid h
  have HRD := Lib.hid hrd
  clear h hrd
  have hnd : D.dead = false → D.newest = if (nwN D 2).t = 0 then (⟨0, []⟩, 5) else (nwN D 2, 0) := fun h => by unfold DK.newest; rw [if_neg (by simp [h])]
  have hdd : D.dead = true → D.newest = (⟨0, []⟩, 51) := newest_dead
  have hstep : ∀ j, nwN D (j + 1) = nwStep D (nwN D j) j := fun _ => rfl
  obtain ⟨R, hR⟩ : ∃ R, R = D.newest := ⟨_, rfl⟩
  rw [← hR] at hnd hdd ⊢
  clear hR
  obtain ⟨NW, hNW⟩ : ∃ NW : Nat → RoT, NW = nwN D := ⟨_, rfl⟩
  have n00 : NW 0 = ⟨0, []⟩ := by rw [hNW]; rfl
  rw [← hNW] at hnd hstep
  clear hNW
  have FD := Lib.hid hdd
  have FN := Lib.hid hnd
  have FS := Lib.hid hstep
  have N0 := Lib.hid n00
  clear hdd hnd hstep n00
  go_enter Try.func55, Try.ntmps55
  go_upto_region 1 with (refine wpList_al rfl 23 rfl alloc_rrt ?_; simp only [Act.put])
  try simp only [List.setIfInBounds_toArray, List.set_cons_zero, List.set_cons_succ]
  change Code.wp _ _ _ _ (w.alloc (.cells (rtC ⟨0, []⟩) 23 (0, 0)))
  generalize w.alloc (.cells (rtC ⟨0, []⟩) 23 (0, 0)) = V at *
  generalize w.heap.size = g2 at *
  have h2 := Lib.hid (h1.alloc (.cells (rtC ⟨0, []⟩) 23 (0, 0)))
  have ST0 := Lib.hid (st_rrtn ⟨0, []⟩ V)
  clear h1
  go_upto_region 2 with (first | (refine wpList_bd rfl 23 rfl build_rrt ?_; simp only [Act.put]) | (refine wpList_al rfl 23 rfl alloc_rrt ?_; simp only [Act.put]) | (refine wpList_st rfl 23 _ _ rfl ST0.out ?_; simp only [Act.put]))
  try simp only [List.setIfInBounds_toArray, List.set_cons_zero, List.set_cons_succ]
  change Code.wp _ _ _ _ (V.alloc (.cells (rtC ⟨0, []⟩) 23 (0, 0)))
  generalize V.alloc (.cells (rtC ⟨0, []⟩) 23 (0, 0)) = V' at *
  generalize V.heap.size = g4 at *
  clear ST0
  rw [← N0.out] at h2
  go_wp2_with fail
  go_loopw [5] (fun c wr => ∃ j : Nat, j ≤ 2 ∧ c = .int .i64 j ∧ (D.dead = true → j = 0) ∧ Hid (OSt w ((g4, .cells (rtC (NW j)) 23 (0, 0)) :: (g2, .cells (rtC ⟨0, []⟩) 23 (0, 0)) :: []) [] wr)) (fun c _ => 2 - (intOf c).toNat)
  case atStart => exact ⟨0, by omega, rfl, fun _ => rfl, by rw [N0.out] at h2 ⊢; exact h2⟩
  case round =>
    clear h2
    obtain ⟨j, hj, rfl, hdj, H⟩ := hrel
    by_cases hj2 : j < 2
    · cases hd : D.dead with
      | true =>
        obtain rfl := hdj hd
        have rd : D.read 0 = (zB, 51) := by
          have : D.askAt 0 = 51 := by unfold DK.askAt; rw [if_pos hd]
          unfold DK.read
          rw [this]
          rfl
        have RD := Lib.hid ((HRD.out 0).trans rd)
        have hR := Lib.hid (FD.out hd)
        clear rd hdj hj hd FD FN FS
        go_wp2_with fail
        refine (rread_at HH.out H.out.bel 0 zB 51 RD.out hl).mono ?_
        rintro e w1 ⟨rfl, k1⟩
        have ST := Lib.hid (st_blkn zB zB_length w1)
        have h2 := Lib.hid ((H.out.ext k1).alloc (.cells (bvs zB).toArray 25 (0, 0)))
        clear H k1 RD
        go_upto_region 6 with (first | (refine wpList_al rfl 25 rfl alloc_blk ?_; simp only [Act.put]) | (refine wpList_st rfl 25 _ _ rfl ST.out ?_; simp only [Act.put]))
        try simp only [List.setIfInBounds_toArray, List.set_cons_zero, List.set_cons_succ]
        change Code.wp _ _ _ _ (w1.alloc (.cells (bvs zB).toArray 25 (0, 0)))
        generalize w1.alloc (.cells (bvs zB).toArray 25 (0, 0)) = V1 at *
        generalize w1.heap.size = g6 at *
        clear ST
        have hg2 := h2.out.get 2 rfl
        have ST := Lib.hid (st_rrt (r := ⟨0, []⟩) hg2)
        have Hg := Lib.hid (setRow_heap _ _ _ (rtC ⟨0, []⟩) _ _ hg2)
        have H3 := Lib.hid (h2.out.row 2 rfl (rtC ⟨0, []⟩)).drop.drop.drop
        clear hg2 h2
        go_wp2_with (first | (refine wpList_bd rfl 23 rfl build_rrt ?_; simp only [Act.put]) | (refine wpList_st rfl 23 _ _ rfl ST.out ?_; simp only [Act.put]))
        exact bodyPost_ret (results_cell_tmp Try.results55 _ _ _ _ _ _ _ rfl Hg.out Try.underlying23 rfl (by rw [info_rrt]; rfl)) rfl ⟨by rw [hR.out]; rfl, H3.out.bel⟩
      | false =>
        have lB := hok.at (j : Int)
        have rd : D.read (j : Int) = (D.at (j : Int), 0) := by
          have : D.askAt (j : Int) = 0 := by unfold DK.askAt; rw [if_neg (by simp [hd]), if_pos (by omega)]
          unfold DK.read
          rw [if_pos this]
        have hs := FS.out j
        unfold nwStep at hs
        have rd2 := (HRD.out (j : Int)).trans rd
        clear rd
        generalize D.at (j : Int) = B at *
        have RD := Lib.hid rd2
        clear rd2
        have ko := fun w => rrgOpen_any B lB w
        unfold roV at ko
        generalize rkO B = O at *
        obtain ⟨⟨ot, ol⟩, oe⟩ := O
        simp only at hs ko
        have KO := Lib.hid ko
        have HS := Lib.hid hs
        clear hs ko
        clear hdj
        go_wp2_with fail
        refine (rread_at HH.out H.out.bel (j : Int) B 0 RD.out hl).mono ?_
        rintro e w1 ⟨rfl, k1⟩
        have ST := Lib.hid (st_blkn B lB w1)
        have h2 := Lib.hid ((H.out.ext k1).alloc (.cells (bvs B).toArray 25 (0, 0)))
        clear H k1 RD
        go_upto_region 6 with (first | (refine wpList_al rfl 25 rfl alloc_blk ?_; simp only [Act.put]) | (refine wpList_st rfl 25 _ _ rfl ST.out ?_; simp only [Act.put]))
        try simp only [List.setIfInBounds_toArray, List.set_cons_zero, List.set_cons_succ]
        change Code.wp _ _ _ _ (w1.alloc (.cells (bvs B).toArray 25 (0, 0)))
        generalize w1.alloc (.cells (bvs B).toArray 25 (0, 0)) = V1 at *
        generalize w1.heap.size = g6 at *
        clear ST
        have hb6 : V1.heap[g6]? = some (.cells (bvs B).toArray 25 (0, 0)) := h2.out.get 0 rfl
        have L6 := Lib.hid (ld_blk hb6 lB)
        clear hb6
        go_wp2_with (refine wpList_ld rfl 25 (.tmp 6) rfl L6.out ?_; simp only [Act.put])
        refine (KO.out _).mono ?_
        rintro e w2 ⟨rfl, k2⟩
        have ST := Lib.hid (st_rrtn ⟨ot, ol⟩ w2)
        have h3 := Lib.hid ((h2.out.ext k2).alloc (.cells (rtC ⟨ot, ol⟩) 23 (0, 0)))
        clear h2 k2 L6 KO
        go_upto_region 9 with (first | (refine wpList_al rfl 23 rfl alloc_rrt ?_; simp only [Act.put]) | (refine wpList_st rfl 23 _ _ rfl ST.out ?_; simp only [Act.put]))
        try simp only [List.setIfInBounds_toArray, List.set_cons_zero, List.set_cons_succ]
        change Code.wp _ _ _ _ (w2.alloc (.cells (rtC ⟨ot, ol⟩) 23 (0, 0)))
        generalize w2.alloc (.cells (rtC ⟨ot, ol⟩) 23 (0, 0)) = V2 at *
        generalize w2.heap.size = g8 at *
        clear ST
        by_cases hE : oe = 0
        · subst hE
          have c8 : V2.cell? ⟨g8, 0, none⟩ = some (.int .i64 ot) := by rw [cell_of_row _ _ _ _ _ _ (h3.out.get 0 rfl)]; rfl
          go_wp2_with fail
          refine (rrgPlace_any ot _).mono ?_
          rintro e w3 ⟨rfl, k3⟩
          have h4 := h3.out.ext k3
          have b8 : w3.heap[g8]? = some (.cells (rtC ⟨ot, ol⟩) 23 (0, 0)) := h4.get 0 rfl
          have b4 : w3.heap[g4]? = some (.cells (rtC (NW j)) 23 (0, 0)) := h4.get 2 rfl
          have c8' : w3.cell? ⟨g8, 0, none⟩ = some (.int .i64 ot) := by rw [cell_of_row _ _ _ _ _ _ b8]; rfl
          have c4' : w3.cell? ⟨g4, 0, none⟩ = some (.int .i64 (NW j).t) := by rw [cell_of_row _ _ _ _ _ _ b4]; rfl
          clear c8 h3 k3
          by_cases hP : placeR ot = (j : Int)
          · by_cases hT : (NW j).t < ot
            · have hn : NW (j + 1) = ⟨ot, ol⟩ := by rw [HS.out]; simp [hP, hT]
              have LD := Lib.hid (ld_rrt b8)
              have ST := Lib.hid (st_rrt (r := ⟨ot, ol⟩) b4)
              have h5 : OSt w ((g4, .cells (rtC (NW (j + 1))) 23 (0, 0)) :: (g2, .cells (rtC ⟨0, []⟩) 23 (0, 0)) :: []) [] (w3.setRow g4 (rtC ⟨ot, ol⟩)) := by rw [hn]; exact (h4.row 2 rfl (rtC ⟨ot, ol⟩)).drop.drop
              have H5 := Lib.hid h5
              clear h5 b8 b4 h4 hn HS
              go_wp2_with (first | (refine wpList_ld rfl 23 (.tmp 8) rfl LD.out ?_; simp only [Act.put]) | (refine wpList_st rfl 23 _ _ rfl ST.out ?_; simp only [Act.put]))
              go_roundw
              case rel => exact ⟨j + 1, by omega, by simp, fun h => by first | cases h | (rw [hd] at h; cases h), H5⟩
              case measure => first | (simp [intOf]; done) | (simp [intOf]; omega)
            · have hn : NW (j + 1) = NW j := by rw [HS.out, if_neg fun h => hT h.2.2]
              have H5 := Lib.hid h4.drop.drop
              rw [← hn] at H5
              clear b8 b4 h4 hn HS
              go_wp2_with fail
              go_roundw
              case rel => exact ⟨j + 1, by omega, by simp, fun h => by first | cases h | (rw [hd] at h; cases h), H5⟩
              case measure => first | (simp [intOf]; done) | (simp [intOf]; omega)
          · have hn : NW (j + 1) = NW j := by rw [HS.out, if_neg fun h => hP h.2.1]
            have H5 := Lib.hid h4.drop.drop
            rw [← hn] at H5
            have z1 : (placeR ot == (j : Int)) = false := beq_eq_false_iff_ne.2 hP
            clear b8 b4 h4 hn HS
            go_wp2_with fail
            go_roundw
            case rel => exact ⟨j + 1, by omega, by simp, fun h => by first | cases h | (rw [hd] at h; cases h), H5⟩
            case measure => first | (simp [intOf]; done) | (simp [intOf]; omega)
        · have hn : NW (j + 1) = NW j := by rw [HS.out, if_neg fun h => hE h.1]
          have H5 := Lib.hid h3.out.drop.drop
          rw [← hn] at H5
          have z1 : (oe == 0) = false := beq_eq_false_iff_ne.2 hE
          clear h3 hn HS
          go_wp2_with fail
          go_roundw
          case rel => exact ⟨j + 1, by omega, by simp, fun h => by first | cases h | (rw [hd] at h; cases h), H5⟩
          case measure => first | (simp [intOf]; done) | (simp [intOf]; omega)
    · obtain rfl : j = 2 := by omega
      have hd : D.dead = false := by
        cases h : D.dead with
        | false => rfl
        | true => exact absurd (hdj h) (by omega)
      have hR := FN.out hd
      have b2 : wr.heap[g2]? = some (.cells (rtC ⟨0, []⟩) 23 (0, 0)) := H.out.get 1 rfl
      have b4 : wr.heap[g4]? = some (.cells (rtC (NW 2)) 23 (0, 0)) := H.out.get 0 rfl
      have c4 : wr.cell? ⟨g4, 0, none⟩ = some (.int .i64 (NW 2).t) := by rw [cell_of_row _ _ _ _ _ _ b4]; rfl
      have hlt : (NW 2).t = 0 ∨ (NW 2).t ≠ 0 := Classical.em _
      generalize NW 2 = X at *
      obtain ⟨xt, xl⟩ := X
      simp only at hR c4 hlt
      clear hdj FN FD FS N0
      rcases hlt with h0 | h0
      · subst h0
        rw [if_pos rfl] at hR
        have HR := Lib.hid hR
        have ST := Lib.hid (st_rrt (r := ⟨0, []⟩) b2)
        have Hg := Lib.hid (setRow_heap _ _ _ (rtC ⟨0, []⟩) _ _ b2)
        have H3 := Lib.hid (H.out.row 1 rfl (rtC ⟨0, []⟩)).drop.drop
        clear hR b2 b4 H
        go_wp2_with (first | (refine wpList_bd rfl 23 rfl build_rrt ?_; simp only [Act.put]) | (refine wpList_st rfl 23 _ _ rfl ST.out ?_; simp only [Act.put]))
        exact bodyPost_ret (results_cell_tmp Try.results55 _ _ _ _ _ _ _ rfl Hg.out Try.underlying23 rfl (by rw [info_rrt]; rfl)) rfl ⟨by rw [HR.out]; rfl, H3.out.bel⟩
      · rw [if_neg h0] at hR
        have HR := Lib.hid hR
        have LD := Lib.hid (ld_rrt b4)
        have ST := Lib.hid (st_rrt (r := ⟨xt, xl⟩) b2)
        have Hg := Lib.hid (setRow_heap _ _ _ (rtC ⟨xt, xl⟩) _ _ b2)
        have H3 := Lib.hid (H.out.row 1 rfl (rtC ⟨xt, xl⟩)).drop.drop
        have z1 : (xt == 0) = false := beq_eq_false_iff_ne.2 h0
        clear hR b2 b4 H
        go_wp2_with (first | (refine wpList_ld rfl 23 (.tmp 4) rfl LD.out ?_; simp only [Act.put]) | (refine wpList_st rfl 23 _ _ rfl ST.out ?_; simp only [Act.put]))
        exact bodyPost_ret (results_cell_tmp Try.results55 _ _ _ _ _ _ _ rfl Hg.out Try.underlying23 rfl (by rw [info_rrt]; rfl)) rfl ⟨by rw [HR.out]; rfl, H3.out.bel⟩
end
section
variable {W w : World} {loc : List (Nat × Obj)} {k gd gx : Nat} {D : DK} {R : RF}
theorem Tie.put (h : Tie D R) (hc : 0 ≤ D.cut) (t : Int) (l : List UInt8) : Tie (D.put t l).1 (R.put t l).1 ∧ (D.put t l).2 = (R.put t l).2 := by
  unfold DK.put RF.put
  split
  · exact h.write hc _ _
  · exact ⟨h, rfl⟩
theorem play_put (h : DpT W loc k gd gx D R w) (hk : k ≤ 1000) (t : Int) (l : List UInt8) (hl : l.length ≤ maxLen) :
    ∃ (E : Int) (D1 : DK) (R1 : RF), (∀ w1, OSt W loc [dkOb gd D, rfOb gx R] w1 → Calls Try.prog 50 #[.pointer (some ⟨gd, 0, none⟩), .agg #[.int .i64 t, .string (str l)]] w1 fun e w' => e = .returned (.int .i64 E) ∧ OSt W loc [dkOb gd D1, rfOb gx R] w' ∧ Mut (SoW W) w1 w') ∧
      (∀ w1, OSt W loc [dkOb gd D1, rfOb gx R] w1 → Calls Try.prog 54 #[.pointer (some ⟨gx, 0, none⟩), .agg #[.int .i64 t, .string (str l)]] w1 fun e w' => e = .returned (.int .i64 E) ∧ DpT W loc (k + 1) gd gx D1 R1 w' ∧ Mut (SoW W) w1 w') := by
  have ht := h.tie.put h.cut0 t l
  have hlm : (R.put t l).1.Lim (k + 1) := by
    unfold RF.put
    split
    · exact h.lim.write _ _
    · exact h.lim.mono (by omega)
  have hkd : (D.put t l).1.keep.length ≤ 3000 := by
    unfold DK.put
    split
    · exact DK.kwrite h.kd _ _
    · exact h.kd
  have hw := h.wtl
  have hL := h.lim
  have hLl := hL.len
  refine ⟨(D.put t l).2, (D.put t l).1, (R.put t l).1, fun w1 h1 => put_om 0 h1 rfl t l hl (by have := h.kd; omega) (by omega), fun w1 h1 => ?_⟩
  rw [ht.2]
  exact (rput_om 1 h1 rfl t l hl hL.cut hL.keep (by omega)).mono fun e w' ⟨he, h2, hm⟩ => ⟨he, ⟨ht.1, hlm, hkd, h2⟩, hm⟩
theorem play_newest (h : DpT W loc k gd gx D R w) (hk : k ≤ 1000) :
    ∃ (r : RoT) (E : Int), (∀ w1, OSt W loc [dkOb gd D, rfOb gx R] w1 → Calls Try.prog 52 #[.pointer (some ⟨gd, 0, none⟩)] w1 fun e w' => e = .returned (.tuple #[.agg (rtC r), .int .i64 E]) ∧ OSt W loc [dkOb gd D, rfOb gx R] w') ∧
      (∀ w1, OSt W loc [dkOb gd D, rfOb gx R] w1 → Calls Try.prog 55 #[.pointer (some ⟨gx, 0, none⟩)] w1 fun e w' => e = .returned (.tuple #[.agg (rtC r), .int .i64 E]) ∧ OSt W loc [dkOb gd D, rfOb gx R] w' ∧ Ext w1 w') := by
  have hw := h.wtl
  have hL := h.lim
  have hLl := hL.len
  have hok := h.st.dok (i := 0) rfl
  have ht := h.tie
  refine ⟨D.newest.1, D.newest.2, fun w1 h1 => newest_o 0 h1 rfl (by omega), fun w1 h1 => ?_⟩
  obtain ⟨S, h2, -⟩ := h1.pick (i := 1) rfl
  exact (rnewest_any w1 h2 (fun z => ht.read z) hok (by omega)).mono fun e w' ⟨he, hb⟩ => ⟨he, h1.ext hb, hb⟩
end
theorem neq_rroot (t t' : Int) (l l' : List UInt8) (w : World) : (binOp .neq 23 (.agg #[.int .i64 t, .string (str l)]) (.agg #[.int .i64 t', .string (str l')])).run Try.prog w = .ok (.bool (!(eqRo t l t' l'))) w := by
  go_simp
  by_cases h1 : t = t' <;> by_cases h4 : l = l' <;> simp [eqRo, h1, h4, strL]
end Go.Proofs.Ytobcfocbglkicaa
