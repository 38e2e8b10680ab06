/- Proved: RingBack returns true whatever root, block, place and byte it is called with, and each argument reads behind the call as before. No condition. -/
import Derived.Test.YtobcfocbglkicaaRgG
import Derived.Test.YtobcfocbglkicaaDkP
import Derived.Test.YtobcfocbglkicaaRgLift
import Derived.Deep.DeepCutAuto
set_option linter.unusedVariables false
set_option maxRecDepth 100000
namespace Go.Proofs.Ytobcfocbglkicaa.ringBack
open Go.RowKit Go.ChangeShapes Go.WideShapes Go.ChangeAt Go.Deep Go.Proofs.Ytobcfocbglkicaa
attribute [local go_sem ↓] neq_blk eql_blk eql_root neq_root

theorem build_rt' (w : World) : (Instr.build 29 #[]).run Try.prog w = .ok (.agg #[.int .i64 0, .string (str [])]) w := build_rt w
set_option maxHeartbeats 16000000 in
theorem walk0 (t : Int) (l : List UInt8) (B : List UInt8) (at_ : Int) (c : UInt8) (w : World) (hl : l.length ≤ maxLen) (lB : B.length = 512) :
    Calls Try.prog 10 #[.agg #[.int .i64 t, .string (str l)], .agg (bvs B).toArray, .int .i64 at_, .int .u8 c.toNat] w fun e w' => e = .returned (.bool true) ∧ Below w.heap.size w w' := by
  have hl0 := hl
  unfold maxLen at hl
  have z1 := str_size l
  have hX : Below w.heap.size w ((w.alloc (.cells #[.int .i64 t, .string (str l)] 23)).alloc (.cells (bvs B).toArray 25)) := by (repeat' (first | (with_reducible assumption) | (with_reducible exact Below.refl _ _) | (with_reducible refine below_sc ?_ ?_) | ((with_reducible show (_ : Nat) ≤ _); omega) | refine Below.setCell ?_ (by first | omega | (simp; done) | (simp; omega)) _ | refine Below.alloc ?_ (by first | omega | (simp; done) | (simp; omega)) _ | refine Below.drew ?_ | refine below_drewN ?_ _ | refine Below.trans ?_ (Below.mono (by assumption) (by first | omega | (simp; done) | (simp; omega)))))
  by_cases g1 : 3000 < l.length
  · go_enter Try.func10, Try.ntmps10
    go_upto_region 1 with fail
    have b1 := heap_alloc2_old w (.cells #[.int .i64 t, .string (str l)] 23) (.cells (bvs B).toArray 25)
    generalize (w.alloc (.cells #[.int .i64 t, .string (str l)] 23)).alloc (.cells (bvs B).toArray 25) = V at *
    go_wp2_with fail
    refine (rworks_any _).mono ?_
    rintro e w1 ⟨rfl, k1⟩
    obtain ⟨c0, c1, -, -, ltb⟩ := blk2 ((Below.block k1 w.heap.size (Array.getElem?_eq_some_iff.1 b1).1).trans b1)
    go_wp2_with fail
    refine (rworks_any _).mono ?_
    rintro e w2 ⟨rfl, k2⟩
    go_wp2_with fail
    go_ret
    exact ⟨rfl, hX.trans ((Ext.trans k1 k2).mono hX.size)⟩
  have h0 := ((DSt.start w).alloc (.cells #[.int .i64 t, .string (str l)] 23 (0, 0))).alloc (.cells (bvs B).toArray 25 (0, 0))
  replace h0 : DSt w [(w.heap.size + 1, .cells (bvs B).toArray 25 (0, 0)), (w.heap.size, .cells #[.int .i64 t, .string (str l)] 23 (0, 0))] [] ((w.alloc (.cells #[.int .i64 t, .string (str l)] 23 (0, 0))).alloc (.cells (bvs B).toArray 25 (0, 0))) := by simpa only [World.size_alloc] using h0
  have ko := fun w => rgOpen_any B lB w
  have fo : ∀ t' l', rkO B = (⟨t', l'⟩, 0) → rkS t' l' = (B, 0) ∧ l'.length ≤ maxLen := fun t' l' h => ⟨(rkO_ok h).1, by have := (rkO_ok h).2; unfold maxLen; omega⟩
  have go : (rkO B).2 ≠ 0 → (rkO B).1 = ⟨0, []⟩ := rkO_no
  have ks := fun w => rgSeal_any t l w hl0
  have lS : (rkS t l).1.length = 512 := rkS_length
  have fb : ∀ S, rkS t l = (S, 0) → rkO S = (⟨t, l⟩, 0) := fun S h => rkO_back h
  have fs : ∀ S, rkS t l = (S, 0) → ∀ i, i < 8 + l.length → ∃ was, S[12 + i]? = some was ∧ ((c = was ∧ rkO (S.set (12 + i) c) = (⟨t, l⟩, 0)) ∨ (c ≠ was ∧ rkO (S.set (12 + i) c) = (⟨0, []⟩, 52))) := fun S h i hi => rkO_set h hi c
  have fl : ∀ S, rkS t l = (S, 0) → l.length ≤ 492 := fun S h => (rkS_ok h).2.2.1
  unfold roV at ko
  generalize rkO B = O at *
  obtain ⟨⟨ot, ol⟩, oe⟩ := O
  simp only at ko go
  have FO : Hid (oe = 0 → rkS ot ol = (B, 0) ∧ ol.length ≤ maxLen) := Lib.hid fun h => fo ot ol (by rw [h])
  have GO := Lib.hid go
  have KO := Lib.hid ko
  clear ko fo go
  generalize rkS t l = R at *
  obtain ⟨S, E⟩ := R
  simp only [bkV] at ks lS
  have KS0 := Lib.hid ks
  have FB : Hid (E = 0 → rkO S = (⟨t, l⟩, 0)) := Lib.hid fun h => fb S (by rw [h])
  have FL : Hid (E = 0 → l.length ≤ 492) := Lib.hid fun h => fl S (by rw [h])
  have FS : Hid (E = 0 → ∀ i, i < 8 + l.length → ∃ was, S[12 + i]? = some was ∧ ((c = was ∧ rkO (S.set (12 + i) c) = (⟨t, l⟩, 0)) ∨ (c ≠ was ∧ rkO (S.set (12 + i) c) = (⟨0, []⟩, 52)))) := Lib.hid fun h => fs S (by rw [h])
  have H0 := Lib.hid h0
  clear ks fb fs fl hX h0
  go_enter Try.func10, Try.ntmps10
  go_upto_region 1 with fail
  change Code.wp _ _ _ _ ((w.alloc (.cells #[.int .i64 t, .string (str l)] 23 (0, 0))).alloc (.cells (bvs B).toArray 25 (0, 0)))
  generalize (w.alloc (.cells #[.int .i64 t, .string (str l)] 23 (0, 0))).alloc (.cells (bvs B).toArray 25 (0, 0)) = V at *
  generalize w.heap.size + 1 = g5 at *
  generalize hg4 : w.heap.size = g4 at *
  go_wp2_with fail
  refine (rworks_any _).mono ?_
  rintro e w1 ⟨rfl, k1⟩
  have H1 := Lib.hid (H0.out.ext k1)
  obtain ⟨c0, c1, -, -, ltb⟩ := blk2 (H1.out.get 1 rfl : w1.heap[g4]? = some (.cells #[.int .i64 t, .string (str l)] 23 (0, 0)))
  clear H0 k1
  go_wp2_with fail
  refine (r_any t l _).mono ?_
  rintro e w2 ⟨rfl, k2⟩
  go_wp2_with fail
  refine (KS0.out _).mono ?_
  rintro e w3 ⟨rfl, k3⟩
  clear c0 c1 ltb
  have ST := Lib.hid (st_blkn S lS w3)
  have H2 := Lib.hid (((H1.out.ext k2).ext k3).alloc (.cells (bvs S).toArray 25 (0, 0)))
  go_upto_region 4 with (first | (refine wpList_al rfl 25 rfl alloc_blk ?_; simp only [Act.put]) | (refine wpList_st rfl 25 _ _ rfl ST.out ?_; simp only [Act.put]))
  try simp only [List.setIfInBounds_toArray, List.set_cons_zero, List.set_cons_succ]
  change Code.wp _ _ _ _ (w3.alloc (.cells (bvs S).toArray 25 (0, 0)))
  generalize w3.alloc (.cells (bvs S).toArray 25 (0, 0)) = V3 at *
  generalize w3.heap.size = g9 at *
  clear ST
  clear H1 k2 k3 KS0
  by_cases hE : E = 0
  · subst hE
    have L9 := Lib.hid (ld_blk (H2.out.get 0 rfl : V3.heap[g9]? = some (.cells (bvs S).toArray 25 (0, 0))) lS)
    have KB := Lib.hid fun w => rgOpen_k S lS t l 0 (FB.out rfl) w
    go_wp2_with (refine wpList_ld rfl 25 (.tmp 9) rfl L9.out ?_; simp only [Act.put])
    refine (KB.out _).mono ?_
    rintro e w4 ⟨rfl, k4⟩
    have ST := Lib.hid (st_rtn ⟨t, l⟩ w4)
    have H3 := Lib.hid ((H2.out.ext k4).alloc (.cells (rtC ⟨t, l⟩) 29 (0, 0)))
    go_upto_region 6 with (first | (refine wpList_al rfl 29 rfl alloc_rt ?_; simp only [Act.put]) | (refine wpList_st rfl 29 _ _ rfl ST.out ?_; simp only [Act.put]))
    try simp only [List.setIfInBounds_toArray, List.set_cons_zero, List.set_cons_succ]
    change Code.wp _ _ _ _ (w4.alloc (.cells (rtC ⟨t, l⟩) 29 (0, 0)))
    generalize w4.alloc (.cells (rtC ⟨t, l⟩) 29 (0, 0)) = V4 at *
    generalize w4.heap.size = g11 at *
    clear ST
    clear H2 k4 L9 KB
    have b11 : V4.heap[g11]? = some (.cells (rtC ⟨t, l⟩) 29 (0, 0)) := H3.out.get 0 rfl
    have b4 : V4.heap[g4]? = some (.cells #[.int .i64 t, .string (str l)] 23 (0, 0)) := H3.out.get 3 rfl
    have L := fun V2 (k : Ext V4 V2) => ld_rt ((Below.block k g11 (Array.getElem?_eq_some_iff.1 b11).1).trans b11)
    unfold rtC at L
    have L11 := Lib.hid L
    have e1 : ∀ ψ (e : ExtP V4.heap.size V4 ψ), e.val.cell? ⟨g4, 0, none⟩ = some (.int .i64 t) := fun ψ e => e.cell (by rw [cell_of_row _ _ _ _ _ _ b4]; rfl) (Array.getElem?_eq_some_iff.1 b4).1
    have e2 : ∀ ψ (e : ExtP V4.heap.size V4 ψ), e.val.cell? ⟨g4, 1, none⟩ = some (.string (str l)) := fun ψ e => e.cell (by rw [cell_of_row _ _ _ _ _ _ b4]; rfl) (Array.getElem?_eq_some_iff.1 b4).1
    have q : eqRo t l t l = true := by simp [eqRo]
    clear L b11 b4
    refine wp_region_pieces 11  [(true, [0, 1, 2, 3, 4, 5, 6, 7, 8, 9, 10])] (by kernel_rfl) (by kernel_rfl) ?_; simp only [pick, List.map_cons, List.map_nil, List.flatMap_cons, List.flatMap_nil, Option.toList_some, List.singleton_append, List.drop_succ_cons, List.drop_zero, List.getElem?_cons_zero, List.getElem?_cons_succ]
    refine ⟨by kernel_rfl, ?_⟩; apply Exists.intro; refine ⟨fun ψ hψ hne => (by (repeat (first | ( go_big_quiet_want; refine quiet_ld 29 (.tmp 11) rfl (fun w' hw' => L11.out w' (ext_in hw')) ?_; go_simp; go_big_quiet_on ) | go_big_quiet_step ((  go_at_call 47; exact extP_of hψ (Nat.le_refl _) (r_any t l _) )))); exact wpQuiet_nil rfl), ?_⟩
    intro V5 hV5
    have H4 := Lib.hid (H3.out.ext hV5)
    obtain ⟨c0, c1, -, -, ltb⟩ := blk2 (H4.out.get 3 rfl : V5.heap[g4]? = some (.cells #[.int .i64 t, .string (str l)] 23 (0, 0)))
    clear e1 e2 L11 H3 hV5
    have hl2 : l.length ≤ 492 := by first | exact FL.out rfl | exact FL.out trivial
    go_upto_region 9 with fail
    obtain ⟨ii, hii, hie⟩ : ∃ ii : Nat, ii < 8 + l.length ∧ wrap64 (12 + wrap64 ((IntKind.u64.wrap at_).tmod (8 + (l.length : Int)))) = ((12 + ii : Nat) : Int) := by
      have h1 : 0 ≤ IntKind.u64.wrap at_ := by simp [IntKind.wrap, IntKind.signed, IntKind.bits]; omega
      have h2 : (0 : Int) < 8 + (l.length : Int) := by omega
      have h3 := Int.emod_nonneg (IntKind.u64.wrap at_) (b := 8 + (l.length : Int)) (by omega)
      have h4 := Int.emod_lt_of_pos (IntKind.u64.wrap at_) h2
      rw [Int.tmod_eq_emod_of_nonneg h1]
      refine ⟨(IntKind.u64.wrap at_ % (8 + (l.length : Int))).toNat, by omega, ?_⟩
      rw [Int.natCast_add, Int.toNat_of_nonneg h3]
      generalize IntKind.u64.wrap at_ % (8 + (l.length : Int)) = X at *
      unfold wrap64
      omega
    rw [hie]
    clear hie
    obtain ⟨was, hw, hcase⟩ : ∃ was, S[12 + ii]? = some was ∧ ((c = was ∧ rkO (S.set (12 + ii) c) = (⟨t, l⟩, 0)) ∨ (c ≠ was ∧ rkO (S.set (12 + ii) c) = (⟨0, []⟩, 52))) := by first | exact FS.out rfl ii hii | exact FS.out trivial ii hii
    have hlt : 12 + ii < S.length := (List.getElem?_eq_some_iff.1 hw).1
    have hwas : S[12 + ii] = was := (List.getElem?_eq_some_iff.1 hw).2
    obtain ⟨c9, f9⟩ := H4.out.cellb 1 rfl (z := 12 + ii) hlt
    rw [hwas] at c9
    obtain ⟨e9, h5⟩ := H4.out.byte 1 rfl (12 + ii) (d := c) rfl
    have lS' : (S.set (12 + ii) c).length = 512 := by rw [List.length_set, lS]
    have E9 := Lib.hid e9
    have H5 : Hid (DSt w [(g11, .cells (rtC ⟨t, l⟩) 29 (0, 0)), (g9, .cells (bvs (S.set (12 + ii) c)).toArray 25 (0, 0)), (g5, .cells (bvs B).toArray 25 (0, 0)), (g4, .cells #[.int .i64 t, .string (str l)] 23 (0, 0))] [] (V5.setRow g9 (bvs (S.set (12 + ii) c)).toArray)) := Lib.hid h5
    have HC := Lib.hid hcase
    clear c0 c1 ltb H4 FB FL FS hw hwas e9 h5 hcase
    go_upto_region 11 with fail
    have e10 := E9.out
    try simp only at e10
    rw [e10]
    clear e10 E9 c9 f9
    generalize V5.setRow g9 (bvs (S.set (12 + ii) c)).toArray = V6 at *
    generalize S.set (12 + ii) c = S2 at *
    have L9 := Lib.hid (ld_blk (H5.out.get 1 rfl : V6.heap[g9]? = some (.cells (bvs S2).toArray 25 (0, 0))) lS')
    rcases HC.out with ⟨hcw, hs⟩ | ⟨hcw, hs⟩
    · subst hcw
      have KB := Lib.hid fun w => rgOpen_k S2 lS' t l 0 hs w
      go_wp2_with (refine wpList_ld rfl 25 (.tmp 9) rfl L9.out ?_; simp only [Act.put])
      refine (KB.out _).mono ?_
      rintro e w6 ⟨rfl, k6⟩
      have ST := Lib.hid (st_rtn ⟨t, l⟩ w6)
      have HT := Lib.hid ((H5.out.ext k6).alloc (.cells (rtC ⟨t, l⟩) 29 (0, 0)))
      go_upto_region 12 with (first | (refine wpList_al rfl 29 rfl alloc_rt ?_; simp only [Act.put]) | (refine wpList_st rfl 29 _ _ rfl ST.out ?_; simp only [Act.put]))
      try simp only [List.setIfInBounds_toArray, List.set_cons_zero, List.set_cons_succ]
      change Code.wp _ _ _ _ (w6.alloc (.cells (rtC ⟨t, l⟩) 29 (0, 0)))
      generalize w6.alloc (.cells (rtC ⟨t, l⟩) 29 (0, 0)) = V7 at *
      generalize w6.heap.size = g15 at *
      clear ST
      clear HC hs KB L9 H5 k6
      have L5 := Lib.hid (ld_blk (HT.out.get 3 rfl : V7.heap[g5]? = some (.cells (bvs B).toArray 25 (0, 0))) lB)
      go_wp2_with (refine wpList_ld rfl 25 (.tmp 5) rfl L5.out ?_; simp only [Act.put])
      refine (KO.out _).mono ?_
      rintro e x1 ⟨rfl, k1⟩
      have ST := Lib.hid (st_rtn ⟨ot, ol⟩ x1)
      have HU := Lib.hid ((HT.out.ext k1).alloc (.cells (rtC ⟨ot, ol⟩) 29 (0, 0)))
      go_upto_region 15 with (first | (refine wpList_al rfl 29 rfl alloc_rt ?_; simp only [Act.put]) | (refine wpList_st rfl 29 _ _ rfl ST.out ?_; simp only [Act.put]))
      try simp only [List.setIfInBounds_toArray, List.set_cons_zero, List.set_cons_succ]
      change Code.wp _ _ _ _ (x1.alloc (.cells (rtC ⟨ot, ol⟩) 29 (0, 0)))
      generalize x1.alloc (.cells (rtC ⟨ot, ol⟩) 29 (0, 0)) = X1 at *
      generalize x1.heap.size = g17 at *
      clear ST
      clear k1 HT L5 KO
      have ly := ld_rt (HU.out.get 0 rfl : X1.heap[g17]? = some (.cells (rtC ⟨ot, ol⟩) 29 (0, 0)))
      unfold rtC at ly
      have LY := Lib.hid ly
      clear ly
      by_cases hO : oe = 0
      · subst hO
        have KS := Lib.hid fun w => rgSeal_k ot ol B 0 (FO.out rfl).2 (FO.out rfl).1 w
        have q : eqB B B = true := by simp [eqB]
        go_wp2_with (refine wpList_ld rfl 29 (.tmp 17) rfl LY.out ?_; simp only [Act.put])
        refine (KS.out _).mono ?_
        rintro e x2 ⟨rfl, k2⟩
        have ST := Lib.hid (st_blkn B lB x2)
        have HV := Lib.hid ((HU.out.ext k2).alloc (.cells (bvs B).toArray 25 (0, 0)))
        go_upto_region 18 with (first | (refine wpList_al rfl 25 rfl alloc_blk ?_; simp only [Act.put]) | (refine wpList_st rfl 25 _ _ rfl ST.out ?_; simp only [Act.put]))
        try simp only [List.setIfInBounds_toArray, List.set_cons_zero, List.set_cons_succ]
        change Code.wp _ _ _ _ (x2.alloc (.cells (bvs B).toArray 25 (0, 0)))
        generalize x2.alloc (.cells (bvs B).toArray 25 (0, 0)) = X2 at *
        generalize x2.heap.size = g19 at *
        clear ST
        have LA := Lib.hid (ld_blk (HV.out.get 0 rfl : X2.heap[g19]? = some (.cells (bvs B).toArray 25 (0, 0))) lB)
        have LB := Lib.hid (ld_blk (HV.out.get (3 + 2) rfl : X2.heap[g5]? = some (.cells (bvs B).toArray 25 (0, 0))) lB)
        go_wp2_with (first | (refine wpList_ldg 25 (.tmp 19) rfl (by rfl) LA.out ?_; simp only [Act.put]) | (refine wpList_ldg 25 (.tmp 5) rfl (by rfl) LB.out ?_; simp only [Act.put]))
        go_ret
        exact ⟨rfl, by first | exact HV.out.bel | (rw [← hg4]; exact HV.out.bel)⟩
      · have e0 := GO.out hO
        simp only [RoT.mk.injEq] at e0
        obtain ⟨rfl, rfl⟩ := e0
        have z1 : (oe != 0) = true := bne_iff_ne.2 hO
        have q : eqRo 0 [] 0 [] = true := by simp [eqRo]
        go_wp2_with (first | (refine wpList_ld rfl 29 (.tmp 17) rfl LY.out ?_; simp only [Act.put]) | (refine wpList_bd rfl 29 rfl build_rt' ?_; simp only [Act.put]))
        go_ret
        exact ⟨rfl, by first | exact HU.out.bel | (rw [← hg4]; exact HU.out.bel)⟩
    · have hne : ¬ (c.toNat : Int) = (was.toNat : Int) := fun e => hcw (UInt8.toNat_inj.1 (by omega))
      have KB := Lib.hid fun w => rgOpen_k S2 lS' 0 [] 52 hs w
      go_wp2_with (refine wpList_ld rfl 25 (.tmp 9) rfl L9.out ?_; simp only [Act.put])
      refine (KB.out _).mono ?_
      rintro e w6 ⟨rfl, k6⟩
      have ST := Lib.hid (st_rtn ⟨0, []⟩ w6)
      have HT := Lib.hid ((H5.out.ext k6).alloc (.cells (rtC ⟨0, []⟩) 29 (0, 0)))
      go_upto_region 12 with (first | (refine wpList_al rfl 29 rfl alloc_rt ?_; simp only [Act.put]) | (refine wpList_st rfl 29 _ _ rfl ST.out ?_; simp only [Act.put]))
      try simp only [List.setIfInBounds_toArray, List.set_cons_zero, List.set_cons_succ]
      change Code.wp _ _ _ _ (w6.alloc (.cells (rtC ⟨0, []⟩) 29 (0, 0)))
      generalize w6.alloc (.cells (rtC ⟨0, []⟩) 29 (0, 0)) = V7 at *
      generalize w6.heap.size = g15 at *
      clear ST
      have z3 : ((c.toNat : Int) == (was.toNat : Int)) = false := beq_eq_false_iff_ne.2 hne
      have z4 : ((c.toNat : Int) != (was.toNat : Int)) = true := bne_iff_ne.2 hne
      clear HC hs KB L9 H5 k6 hcw
      have L5 := Lib.hid (ld_blk (HT.out.get 3 rfl : V7.heap[g5]? = some (.cells (bvs B).toArray 25 (0, 0))) lB)
      go_wp2_with (refine wpList_ld rfl 25 (.tmp 5) rfl L5.out ?_; simp only [Act.put])
      refine (KO.out _).mono ?_
      rintro e x1 ⟨rfl, k1⟩
      have ST := Lib.hid (st_rtn ⟨ot, ol⟩ x1)
      have HU := Lib.hid ((HT.out.ext k1).alloc (.cells (rtC ⟨ot, ol⟩) 29 (0, 0)))
      go_upto_region 15 with (first | (refine wpList_al rfl 29 rfl alloc_rt ?_; simp only [Act.put]) | (refine wpList_st rfl 29 _ _ rfl ST.out ?_; simp only [Act.put]))
      try simp only [List.setIfInBounds_toArray, List.set_cons_zero, List.set_cons_succ]
      change Code.wp _ _ _ _ (x1.alloc (.cells (rtC ⟨ot, ol⟩) 29 (0, 0)))
      generalize x1.alloc (.cells (rtC ⟨ot, ol⟩) 29 (0, 0)) = X1 at *
      generalize x1.heap.size = g17 at *
      clear ST
      clear k1 HT L5 KO
      have ly := ld_rt (HU.out.get 0 rfl : X1.heap[g17]? = some (.cells (rtC ⟨ot, ol⟩) 29 (0, 0)))
      unfold rtC at ly
      have LY := Lib.hid ly
      clear ly
      by_cases hO : oe = 0
      · subst hO
        have KS := Lib.hid fun w => rgSeal_k ot ol B 0 (FO.out rfl).2 (FO.out rfl).1 w
        have q : eqB B B = true := by simp [eqB]
        go_wp2_with (refine wpList_ld rfl 29 (.tmp 17) rfl LY.out ?_; simp only [Act.put])
        refine (KS.out _).mono ?_
        rintro e x2 ⟨rfl, k2⟩
        have ST := Lib.hid (st_blkn B lB x2)
        have HV := Lib.hid ((HU.out.ext k2).alloc (.cells (bvs B).toArray 25 (0, 0)))
        go_upto_region 18 with (first | (refine wpList_al rfl 25 rfl alloc_blk ?_; simp only [Act.put]) | (refine wpList_st rfl 25 _ _ rfl ST.out ?_; simp only [Act.put]))
        try simp only [List.setIfInBounds_toArray, List.set_cons_zero, List.set_cons_succ]
        change Code.wp _ _ _ _ (x2.alloc (.cells (bvs B).toArray 25 (0, 0)))
        generalize x2.alloc (.cells (bvs B).toArray 25 (0, 0)) = X2 at *
        generalize x2.heap.size = g19 at *
        clear ST
        have LA := Lib.hid (ld_blk (HV.out.get 0 rfl : X2.heap[g19]? = some (.cells (bvs B).toArray 25 (0, 0))) lB)
        have LB := Lib.hid (ld_blk (HV.out.get (3 + 2) rfl : X2.heap[g5]? = some (.cells (bvs B).toArray 25 (0, 0))) lB)
        go_wp2_with (first | (refine wpList_ldg 25 (.tmp 19) rfl (by rfl) LA.out ?_; simp only [Act.put]) | (refine wpList_ldg 25 (.tmp 5) rfl (by rfl) LB.out ?_; simp only [Act.put]))
        go_ret
        exact ⟨rfl, by first | exact HV.out.bel | (rw [← hg4]; exact HV.out.bel)⟩
      · have e0 := GO.out hO
        simp only [RoT.mk.injEq] at e0
        obtain ⟨rfl, rfl⟩ := e0
        have z1 : (oe != 0) = true := bne_iff_ne.2 hO
        have q : eqRo 0 [] 0 [] = true := by simp [eqRo]
        go_wp2_with (first | (refine wpList_ld rfl 29 (.tmp 17) rfl LY.out ?_; simp only [Act.put]) | (refine wpList_bd rfl 29 rfl build_rt' ?_; simp only [Act.put]))
        go_ret
        exact ⟨rfl, by first | exact HU.out.bel | (rw [← hg4]; exact HU.out.bel)⟩
  · have z2 : (E == 0) = false := beq_eq_false_iff_ne.2 hE
    have HT := H2
    clear H2 FB FL FS
    have L5 := Lib.hid (ld_blk (HT.out.get 1 rfl : V3.heap[g5]? = some (.cells (bvs B).toArray 25 (0, 0))) lB)
    go_wp2_with (refine wpList_ld rfl 25 (.tmp 5) rfl L5.out ?_; simp only [Act.put])
    refine (KO.out _).mono ?_
    rintro e x1 ⟨rfl, k1⟩
    have ST := Lib.hid (st_rtn ⟨ot, ol⟩ x1)
    have HU := Lib.hid ((HT.out.ext k1).alloc (.cells (rtC ⟨ot, ol⟩) 29 (0, 0)))
    go_upto_region 15 with (first | (refine wpList_al rfl 29 rfl alloc_rt ?_; simp only [Act.put]) | (refine wpList_st rfl 29 _ _ rfl ST.out ?_; simp only [Act.put]))
    try simp only [List.setIfInBounds_toArray, List.set_cons_zero, List.set_cons_succ]
    change Code.wp _ _ _ _ (x1.alloc (.cells (rtC ⟨ot, ol⟩) 29 (0, 0)))
    generalize x1.alloc (.cells (rtC ⟨ot, ol⟩) 29 (0, 0)) = X1 at *
    generalize x1.heap.size = g17 at *
    clear ST
    clear k1 HT L5 KO
    have ly := ld_rt (HU.out.get 0 rfl : X1.heap[g17]? = some (.cells (rtC ⟨ot, ol⟩) 29 (0, 0)))
    unfold rtC at ly
    have LY := Lib.hid ly
    clear ly
    by_cases hO : oe = 0
    · subst hO
      have KS := Lib.hid fun w => rgSeal_k ot ol B 0 (FO.out rfl).2 (FO.out rfl).1 w
      have q : eqB B B = true := by simp [eqB]
      go_wp2_with (refine wpList_ld rfl 29 (.tmp 17) rfl LY.out ?_; simp only [Act.put])
      refine (KS.out _).mono ?_
      rintro e x2 ⟨rfl, k2⟩
      have ST := Lib.hid (st_blkn B lB x2)
      have HV := Lib.hid ((HU.out.ext k2).alloc (.cells (bvs B).toArray 25 (0, 0)))
      go_upto_region 18 with (first | (refine wpList_al rfl 25 rfl alloc_blk ?_; simp only [Act.put]) | (refine wpList_st rfl 25 _ _ rfl ST.out ?_; simp only [Act.put]))
      try simp only [List.setIfInBounds_toArray, List.set_cons_zero, List.set_cons_succ]
      change Code.wp _ _ _ _ (x2.alloc (.cells (bvs B).toArray 25 (0, 0)))
      generalize x2.alloc (.cells (bvs B).toArray 25 (0, 0)) = X2 at *
      generalize x2.heap.size = g19 at *
      clear ST
      have LA := Lib.hid (ld_blk (HV.out.get 0 rfl : X2.heap[g19]? = some (.cells (bvs B).toArray 25 (0, 0))) lB)
      have LB := Lib.hid (ld_blk (HV.out.get (1 + 2) rfl : X2.heap[g5]? = some (.cells (bvs B).toArray 25 (0, 0))) lB)
      go_wp2_with (first | (refine wpList_ldg 25 (.tmp 19) rfl (by rfl) LA.out ?_; simp only [Act.put]) | (refine wpList_ldg 25 (.tmp 5) rfl (by rfl) LB.out ?_; simp only [Act.put]))
      go_ret
      exact ⟨rfl, by first | exact HV.out.bel | (rw [← hg4]; exact HV.out.bel)⟩
    · have e0 := GO.out hO
      simp only [RoT.mk.injEq] at e0
      obtain ⟨rfl, rfl⟩ := e0
      have z1 : (oe != 0) = true := bne_iff_ne.2 hO
      have q : eqRo 0 [] 0 [] = true := by simp [eqRo]
      go_wp2_with (first | (refine wpList_ld rfl 29 (.tmp 17) rfl LY.out ?_; simp only [Act.put]) | (refine wpList_bd rfl 29 rfl build_rt' ?_; simp only [Act.put]))
      go_ret
      exact ⟨rfl, by first | exact HU.out.bel | (rw [← hg4]; exact HU.out.bel)⟩

theorem walk (r : RoT) (wr : r.Ok) (b : BkT) (wb : b.Ok) (a : Int) (wa : (Lit.int .i64 a).wf = true) (c : Int) (wc : (Lit.int .u8 c).wf = true) (w : World) :
    Calls Try.prog 10 #[r.v, b.v, .int .i64 a, .int .u8 c] w fun e w' => e = .returned (.bool true) ∧ Below w.heap.size w w' := by
  have hb : 0 ≤ c ∧ c ≤ 255 := by simpa [Lit.wf, IntKind.has, IntKind.min, IntKind.max, IntKind.signed, IntKind.bits] using wc
  have := walk0 r.t r.l b.l a (byteOf c) w wr.l wb.l
  rw [byteOf_toNat, Int.emod_eq_of_lt hb.1 (by omega)] at this
  exact this

theorem own : ownKnob Try.prog.godebug = none := by kernel_rfl
theorem laidOut : laidOutB Try.prog = true := by kernel_rfl

set_option maxRecDepth 100000 in
theorem lifted (os : Os) (started : os.Started) (H : Type) (enc : TypeId × Value → H) :
    ReturnsInHanded {} Try.checked os 10 .any (Rows.ringBackSpec.pre6 enc Try.prog Try.f10 Rows.ringBackRow.domain false) (Rows.ringBackSpec.post enc Try.prog Try.f10 false true false false) := by
  refine returnsInHanded_of_change (C := Try.checked) own started (by kernel_rfl) Try.func10
    (ChangeSpec.witness6 (enc := enc) (C := Try.checked) false ⟨#[], #[.agg #[.int .i64 0, .string ⟨#[]⟩], .agg (Array.replicate 512 (.int .u8 0)), .int .i64 0, .int .u8 0], []⟩ 8 (by kernel_rfl) (by kernel_rfl) (by kernel_rfl) (by kernel_rfl)) ?_
  intro W base args ds gs before hval0 hW hcnd _
  have hval : ∀ (j : Nat) t v, Try.f10.params[j]? = some t → args[j]? = some v → Value.okWide Try.prog W .any base t v := hval0
  have hW' := hW
  obtain ⟨p, q, hA0, hV, rfl, hfz, hnd⟩ := hW
  have hA : DataW.TrodAll enc Try.prog W 0 (fun _ => true) true Try.f10.params.toList args.toList ds p := hA0
  rw [Try.params10] at hA hval
  obtain ⟨v0, vs0, d0, ds0, p0, q0, hargs, rfl, rfl, h0, r0⟩ := trodAll_cons hA
  obtain ⟨v1, vs1, d1, ds1, p1, q1, rfl, rfl, rfl, h1, r1⟩ := trodAll_cons r0
  obtain ⟨v2, vs2, d2, ds2, p2, q2, rfl, rfl, rfl, h2, r2⟩ := trodAll_cons r1
  obtain ⟨v3, vs3, d3, ds3, p3, q3, rfl, rfl, rfl, h3, r3⟩ := trodAll_cons r2
  obtain ⟨rfl, rfl, rfl⟩ := trodAll_nil r3
  obtain rfl : args = #[v0, v1, v2, v3] := by cases args; simp_all
  obtain ⟨rfl, rfl⟩ := trodVars_none hV
  have k0 := h0
  have lt0 : ∀ x ∈ p0, x.block < W.heap.size := by obtain ⟨m, hm⟩ := k0; exact DataW.trod_lt m _ _ _ hm
  have k1 := h1
  have lt1 : ∀ x ∈ p1, x.block < W.heap.size := by obtain ⟨m, hm⟩ := k1; exact DataW.trod_lt m _ _ _ hm
  have k2 := h2
  have lt2 : ∀ x ∈ p2, x.block < W.heap.size := by obtain ⟨m, hm⟩ := k2; exact DataW.trod_lt m _ _ _ hm
  have k3 := h3
  have lt3 : ∀ x ∈ p3, x.block < W.heap.size := by obtain ⟨m, hm⟩ := k3; exact DataW.trod_lt m _ _ _ hm
  obtain ⟨x0, rfl, w0⟩ := open_root (hval 0 _ v0 rfl rfl) h0
  obtain ⟨x1, rfl, w1⟩ := open_blk (hval 1 _ v1 rfl rfl) h1
  obtain ⟨a2, rfl, -, -, wa2⟩ := open_int Try.underlying3 (hval 2 _ v2 rfl rfl) h2
  obtain ⟨a3, rfl, -, -, wa3⟩ := open_int Try.underlying5 (hval 3 _ v3 rfl rfl) h3
  refine (walk x0 w0 x1 w1 a2 wa2 a3 wa3 W).mono fun e W' ⟨he, bel⟩ => ?_
  subst he
  exact ⟨_, rfl, _, _, _, [], _, [], hW', trodAll_mk1 (shut_bool Try.underlying4 _), (trodAll_cons_mk (Below.trod laidOut (by kernel_rfl) (of_decide_eq_true (by kernel_rfl)) k0 bel lt0) (trodAll_cons_mk (Below.trod laidOut (by kernel_rfl) (of_decide_eq_true (by kernel_rfl)) k1 bel lt1) (trodAll_cons_mk (Below.trod laidOut (by kernel_rfl) (of_decide_eq_true (by kernel_rfl)) k2 bel lt2) (trodAll_cons_mk (Below.trod laidOut (by kernel_rfl) (of_decide_eq_true (by kernel_rfl)) k3 bel lt3) trodAll_mk0)))), rfl, bel.frame _, fun h => by cases h⟩

theorem proved : Rows.RingBackSaid :=
  OpenClaim.holds_of_wide 10 Try.f10 rfl rfl rfl rfl rfl rfl rfl ⟨rfl, rfl, rfl, rfl, rfl⟩ rfl rfl rfl rfl rfl (by kernel_rfl) Try.func10 (by kernel_rfl)
    (of_decide_eq_true (by kernel_rfl)) (by unfold Func.isWrapper; first | (rw [if_pos (by decide +kernel)]; kernel_rfl) | (rw [if_neg (by decide +kernel)]; exact ⟨rfl, rfl⟩))
    (fun os started H enc _ => lifted os started H enc)
end Go.Proofs.Ytobcfocbglkicaa.ringBack
