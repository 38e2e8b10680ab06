/- Walks of the document's disk: Waiting, last, Read, SayCut. -/
import Derived.Test.YtobcfocbglkicaaRfC
set_option linter.unusedVariables false
set_option maxRecDepth 100000
namespace Go.Proofs.Ytobcfocbglkicaa
open Go.RowKit

theorem lastR_snoc (l : List RW) (p : RW) (z : Int) : lastR (l ++ [p]) z = if p.1 = z then some p.2.1 else lastR l z := by
  unfold lastR
  rw [List.reverse_append, List.reverse_singleton, List.singleton_append, List.find?_cons]
  by_cases h : p.1 = z <;> simp [h]
theorem lastR_512 {l : List RW} (h : ∀ p ∈ l, p.2.1.length = 512) {z : Int} : ((lastR l z).getD zB).length = 512 := by
  unfold lastR
  cases k : l.reverse.find? fun p => decide (p.1 = z) with
  | none => exact zB_length
  | some p => exact h p (List.mem_reverse.1 (List.mem_of_find?_eq_some k))
/-- How many of a row wait. -/
def wtN (l : List RW) : Nat := (l.filter fun p => !p.2.2).length
theorem wtN_snoc (l : List RW) (p : RW) : wtN (l ++ [p]) = wtN l + if p.2.2 then 0 else 1 := by
  unfold wtN
  rw [List.filter_append, List.length_append]
  cases h : p.2.2 <;> simp [h]
theorem wtN_le (l : List RW) : wtN l ≤ l.length := List.length_filter_le _ _
set_option maxHeartbeats 2000000 in
theorem rwaiting_any {S : Nat → Prop} {g : Nat} {R : RF} (w : World) (h : RfAt w S g R) (hl : R.L.length ≤ 1000000) :
    Calls Try.prog 77 #[.pointer (some ⟨g, 0, none⟩)] w fun e w' => e = .returned (.int .i64 R.waiting) ∧ Below w.heap.size w w' := by
  obtain ⟨sv, kv, h⟩ := h
  obtain ⟨n, L, cut, kp, dead⟩ := R
  simp only at hl
  have hok : ∀ p ∈ L, p.2.1.length = 512 := h.ok
  rw [show RF.waiting ⟨n, L, cut, kp, dead⟩ = wtN L from rfl]
  obtain ⟨A, c, rfl⟩ := h.l.form
  have H := Lib.hid h
  clear h
  simp only at H
  go_enter Try.func77, Try.ntmps77
  go_wp2_with fail
  go_loopw [3, 4] (fun m i wr => ∃ j : Nat, j ≤ L.length ∧ i = .int .i64 j ∧ m = .int .i64 (wtN (L.take j)) ∧ Hid (Ext w wr)) (fun _ i _ => L.length - (intOf i).toNat)
  case atStart => exact ⟨0, Nat.zero_le _, rfl, rfl, Lib.hid (Ext.refl _)⟩
  case round =>
    obtain ⟨j, hj, rfl, rfl, HX⟩ := hrel
    have h2 := H.out.ext HX.out
    obtain ⟨-, c1, -, -, -, fz, hlt⟩ := blk5 h2.hg
    by_cases hjl : j < L.length
    · obtain ⟨p, hp⟩ : ∃ p, L[j]? = some p := ⟨_, List.getElem?_eq_getElem hjl⟩
      have ht : wtN (L.take (j + 1)) = wtN (L.take j) + if p.2.2 then 0 else 1 := by
        rw [List.take_add_one, hp]; exact wtN_snoc _ _
      obtain ⟨gl, rfl, -, d1, -, gll, hcc⟩ := rw_cells h2.l hok hp
      have hle := wtN_le (L.take j)
      have htk : (L.take j).length ≤ 1000000 := by rw [List.length_take]; omega
      generalize wtN (L.take j) = M at *
      have HT := Lib.hid ht
      clear ht
      clear h2 hp
      cases hb : p.2.2 with
      | false =>
        rw [hb] at HT d1
        go_wp2
        go_roundw
        case rel => exact ⟨j + 1, by omega, by first | rfl | (simp; done) | go_num, by rw [HT.out]; first | rfl | (simp; done) | go_num, HX⟩
        case measure => simp [intOf]; omega
      | true =>
        rw [hb] at HT d1
        go_wp2
        go_roundw
        case rel => exact ⟨j + 1, by omega, by first | rfl | (simp; done) | go_num, by rw [HT.out]; first | rfl | (simp; done) | go_num, HX⟩
        case measure => simp [intOf]; omega
    · obtain rfl : j = L.length := by omega
      rw [List.take_length]
      clear h2
      go_wp2
      go_ret
      exact ⟨rfl, HX.out⟩

set_option maxHeartbeats 2000000 in
theorem last_any {S : Nat → Prop} {g : Nat} {R : RF} (z : Int) (w : World) (h : RfAt w S g R) (hl : R.L.length ≤ 1000000) :
    Calls Try.prog 76 #[.pointer (some ⟨g, 0, none⟩), .int .i64 z] w fun e w' => e = .returned (.agg (bvs ((lastR R.L z).getD zB)).toArray) ∧ Below w.heap.size w w' := by
  obtain ⟨sv, kv, h⟩ := h
  obtain ⟨n, L, cut, kp, dead⟩ := R
  simp only at hl ⊢
  have hok : ∀ p ∈ L, p.2.1.length = 512 := h.ok
  obtain ⟨A, c, rfl⟩ := h.l.form
  have X := extAl w (.cells (bvs zB).toArray 25)
  have B0 := Lib.hid (heap_alloc_last w (.cells (bvs zB).toArray 25))
  have H := Lib.hid (h.ext X)
  have HX0 := Lib.hid X
  obtain ⟨-, c1, -, -, -, fz, hlt⟩ := blk5 H.out.hg
  have L512 := lastR_512 (z := z) hok
  obtain ⟨V, hV⟩ : ∃ V, V = lastR L z := ⟨_, rfl⟩
  rw [← hV] at L512 ⊢
  have HV := Lib.hid hV
  clear h X hV
  go_enter Try.func76, Try.ntmps76
  go_upto_region 1 with (refine wpList_al rfl 25 rfl alloc_blk ?_; simp only [Act.put])
  try simp only [List.setIfInBounds_toArray, List.set_cons_zero, List.set_cons_succ]
  generalize w.alloc (.cells (bvs zB).toArray 25) = W0 at *
  go_wp2_with fail
  clear c1 fz hlt
  go_loopw [5] (fun i wr => ∃ j : Nat, j ≤ L.length ∧ i = .int .i64 ((j : Int) - 1) ∧ Hid (V = lastR (L.take j) z) ∧ Hid (Ext W0 wr)) (fun i _ => (intOf i + 1).toNat)
  case atStart => exact ⟨L.length, Nat.le_refl _, rfl, by rw [List.take_length]; exact HV, Lib.hid (Ext.refl _)⟩
  case round =>
    obtain ⟨j, hj, rfl, HJ, HX⟩ := hrel
    have h2 := H.out.ext HX.out
    obtain ⟨-, c1, -, -, -, fz, hlt⟩ := blk5 h2.hg
    have b2 := Ext.blk HX.out B0.out
    by_cases hj0 : 0 < j
    · obtain ⟨i, rfl⟩ : ∃ i, j = i + 1 := ⟨j - 1, by omega⟩
      obtain ⟨p, hp⟩ : ∃ p, L[i]? = some p := ⟨_, List.getElem?_eq_getElem (by omega)⟩
      have ht : V = if p.1 = z then some p.2.1 else lastR (L.take i) z := by
        have h3 := HJ.out
        rw [List.take_add_one, hp] at h3
        exact h3.trans (lastR_snoc _ _ _)
      obtain ⟨gl, rfl, d0, -, dl, gll, hcc⟩ := rw_cells h2.l hok hp
      have e1 : ((i + 1 : Nat) : Int) - 1 = (i : Int) := by omega
      rw [e1]
      have p512 := hok p (List.mem_of_getElem? hp)
      clear h2 hp HJ e1
      by_cases hz : p.1 = z
      · rw [if_pos hz] at ht
        have ST := Lib.hid (st_blk (l := p.2.1) b2 zB_length p512)
        have Hres := Lib.hid (setRow_heap _ _ _ (bvs p.2.1).toArray _ _ b2)
        have Fin := Lib.hid (below_setRow (Ext.trans HX0.out HX.out) (Nat.le_refl _) (bvs p.2.1).toArray)
        have DL := Lib.hid dl
        have hzz : (p.1 == z) = true := by simp [hz]
        clear dl b2 hz
        go_wp2_with (first | (refine wpList_ld rfl 25 _ rfl DL.out ?_; simp only [Act.put]) | (refine wpList_st rfl 25 _ _ rfl ST.out ?_; simp only [Act.put]))
        exact bodyPost_ret (results_cell_row Try.results76 _ _ _ _ _ _ _ rfl Hres.out Try.underlying25 rfl (by rw [info_blk, bvs_size, p512])) rfl ⟨by rw [ht]; rfl, Fin.out⟩
      · rw [if_neg hz] at ht
        have HT := Lib.hid ht
        have hzz : (p.1 == z) = false := by simp [hz]
        clear dl b2 hz ht
        go_wp2_with fail
        go_roundw
        case rel => exact ⟨i, by omega, by first | rfl | (simp; done) | go_num, HT, HX⟩
        case measure => first | (simp [intOf]; done) | (simp [intOf]; omega)
    · obtain rfl : j = 0 := by omega
      have hv : V.getD zB = zB := by rw [HJ.out]; rfl
      have ST := Lib.hid (st_blk (l := zB) b2 zB_length zB_length)
      have Hres := Lib.hid (setRow_heap _ _ _ (bvs zB).toArray _ _ b2)
      have Fin := Lib.hid (below_setRow (Ext.trans HX0.out HX.out) (Nat.le_refl _) (bvs zB).toArray)
      clear h2 b2 HJ
      go_wp2_with (first | (refine wpList_bd rfl 25 rfl build_blk ?_; simp only [Act.put]) | (refine wpList_st rfl 25 _ _ rfl ST.out ?_; simp only [Act.put]))
      exact bodyPost_ret (results_cell_row Try.results76 _ _ _ _ _ _ _ rfl Hres.out Try.underlying25 rfl (by rw [info_blk, bvs_size, zB_length])) rfl ⟨by rw [hv], Fin.out⟩

set_option maxHeartbeats 4000000 in
theorem rRead_any {S : Nat → Prop} {g : Nat} {R : RF} (z : Int) (w : World) (h : RfAt w S g R) (hl : R.L.length ≤ 1000000) :
    Calls Try.prog 40 #[.pointer (some ⟨g, 0, none⟩), .int .i64 z] w fun e w' => e = .returned (.tuple #[bval (R.read z).1, .int .i64 (R.read z).2]) ∧ Below w.heap.size w w' := by
  have hA := h
  obtain ⟨sv, kv, h⟩ := h
  obtain ⟨n, L, cut, kp, dead⟩ := R
  have hok : ∀ p ∈ L, p.2.1.length = 512 := h.ok
  cases dead with
  | true =>
    rw [show RF.read ⟨n, L, cut, kp, true⟩ z = (zB, 51) from rfl]
    have X := extAl w (.cells (bvs zB).toArray 25)
    have b0 := heap_alloc_last w (.cells (bvs zB).toArray 25)
    have H := Lib.hid (h.ext X)
    have HX0 := Lib.hid X
    obtain ⟨c0, -, -, -, c4, fz, hlt⟩ := blk5 H.out.hg
    simp only at c0 c4
    clear hA
    have ST := Lib.hid (st_blk (l := zB) b0 zB_length zB_length)
    have Hres := Lib.hid (setRow_heap _ _ _ (bvs zB).toArray _ _ b0)
    have Fin := Lib.hid (below_setRow HX0.out (Nat.le_refl _) (bvs zB).toArray)
    clear h X b0 H
    go_enter Try.func40, Try.ntmps40
    go_upto_region 1 with (refine wpList_al rfl 25 rfl alloc_blk ?_; simp only [Act.put])
    try simp only [List.setIfInBounds_toArray, List.set_cons_zero, List.set_cons_succ]
    generalize w.alloc (.cells (bvs zB).toArray 25) = W0 at *
    go_wp2_with (first | (refine wpList_bd rfl 25 rfl build_blk ?_; simp only [Act.put]) | (refine wpList_st rfl 25 _ _ rfl ST.out ?_; simp only [Act.put]))
    exact bodyPost_ret (results_cell_tmp Try.results40 _ _ _ _ _ _ _ rfl Hres.out Try.underlying25 rfl (by rw [info_blk, bvs_size, zB_length])) rfl ⟨rfl, Fin.out⟩
  | false =>
    by_cases hz : 0 ≤ z ∧ z < n
    · rw [show RF.read ⟨n, L, cut, kp, false⟩ z = ((lastR L z).getD zB, 0) by unfold RF.read; rw [if_neg (by simp), if_pos hz]]
      have L512 := lastR_512 (z := z) hok
      have X := extAl w (.cells (bvs zB).toArray 25)
      have b0 := heap_alloc_last w (.cells (bvs zB).toArray 25)
      have H := Lib.hid (h.ext X)
      have HX0 := Lib.hid X
      obtain ⟨c0, -, -, -, c4, fz, hlt⟩ := blk5 H.out.hg
      simp only at c0 c4
      obtain ⟨hz0, hz1⟩ := hz
      have KL := Lib.hid (last_any z _ (hA.ext X) hl)
      simp only at KL
      generalize (lastR L z).getD zB = V at *
      have B0 := Lib.hid b0
      clear h X hA H b0
      go_enter Try.func40, Try.ntmps40
      go_upto_region 1 with (refine wpList_al rfl 25 rfl alloc_blk ?_; simp only [Act.put])
      try simp only [List.setIfInBounds_toArray, List.set_cons_zero, List.set_cons_succ]
      generalize w.alloc (.cells (bvs zB).toArray 25) = W0 at *
      go_wp2_with fail
      refine KL.out.mono ?_
      rintro e w1 ⟨rfl, hx1⟩
      have b1 := Ext.blk hx1 B0.out
      have ST := Lib.hid (st_blk (l := V) b1 zB_length L512)
      have Hres := Lib.hid (setRow_heap _ _ _ (bvs V).toArray _ _ b1)
      have Fin := Lib.hid (below_setRow (Ext.trans HX0.out hx1) (Nat.le_refl _) (bvs V).toArray)
      clear KL B0 b1 hx1 c0 c4 fz hlt HX0
      go_wp2_with (refine wpList_st rfl 25 _ _ rfl ST.out ?_; simp only [Act.put])
      exact bodyPost_ret (results_cell_tmp Try.results40 _ _ _ _ _ _ _ rfl Hres.out Try.underlying25 rfl (by rw [info_blk, bvs_size, L512])) rfl ⟨rfl, Fin.out⟩
    · rw [show RF.read ⟨n, L, cut, kp, false⟩ z = (zB, 1) by unfold RF.read; rw [if_neg (by simp), if_neg hz]]
      have X := extAl w (.cells (bvs zB).toArray 25)
      have b0 := heap_alloc_last w (.cells (bvs zB).toArray 25)
      have H := Lib.hid (h.ext X)
      have HX0 := Lib.hid X
      obtain ⟨c0, -, -, -, c4, fz, hlt⟩ := blk5 H.out.hg
      simp only at c0 c4
      clear hA
      by_cases hz0 : z < 0
      · clear hz
        have ST := Lib.hid (st_blk (l := zB) b0 zB_length zB_length)
        have Hres := Lib.hid (setRow_heap _ _ _ (bvs zB).toArray _ _ b0)
        have Fin := Lib.hid (below_setRow HX0.out (Nat.le_refl _) (bvs zB).toArray)
        clear h X b0 H
        go_enter Try.func40, Try.ntmps40
        go_upto_region 1 with (refine wpList_al rfl 25 rfl alloc_blk ?_; simp only [Act.put])
        try simp only [List.setIfInBounds_toArray, List.set_cons_zero, List.set_cons_succ]
        generalize w.alloc (.cells (bvs zB).toArray 25) = W0 at *
        go_wp2_with (first | (refine wpList_bd rfl 25 rfl build_blk ?_; simp only [Act.put]) | (refine wpList_st rfl 25 _ _ rfl ST.out ?_; simp only [Act.put]))
        exact bodyPost_ret (results_cell_tmp Try.results40 _ _ _ _ _ _ _ rfl Hres.out Try.underlying25 rfl (by rw [info_blk, bvs_size, zB_length])) rfl ⟨rfl, Fin.out⟩
      · have hz1 : n ≤ z := by omega
        have hz2 : 0 ≤ z := by omega
        clear hz hz0
        have ST := Lib.hid (st_blk (l := zB) b0 zB_length zB_length)
        have Hres := Lib.hid (setRow_heap _ _ _ (bvs zB).toArray _ _ b0)
        have Fin := Lib.hid (below_setRow HX0.out (Nat.le_refl _) (bvs zB).toArray)
        clear h X b0 H
        go_enter Try.func40, Try.ntmps40
        go_upto_region 1 with (refine wpList_al rfl 25 rfl alloc_blk ?_; simp only [Act.put])
        try simp only [List.setIfInBounds_toArray, List.set_cons_zero, List.set_cons_succ]
        generalize w.alloc (.cells (bvs zB).toArray 25) = W0 at *
        go_wp2_with (first | (refine wpList_bd rfl 25 rfl build_blk ?_; simp only [Act.put]) | (refine wpList_st rfl 25 _ _ rfl ST.out ?_; simp only [Act.put]))
        exact bodyPost_ret (results_cell_tmp Try.results40 _ _ _ _ _ _ _ rfl Hres.out Try.underlying25 rfl (by rw [info_blk, bvs_size, zB_length])) rfl ⟨rfl, Fin.out⟩

theorem RBo.mutE {S : Nat → Prop} {w w' : World} {v : Value} {l : List Bool} (h : RBo w v l) (k : Mut S w w') (hn : ∀ b off n c, v = .slice (some ⟨b, off, none⟩) n c → l ≠ [] → ¬ S b) : RBo w' v l := by
  cases l with
  | nil =>
    rcases h with ⟨A, c, rfl, _⟩ | ⟨b, off, c, rfl, _⟩
    · exact .inl ⟨A, c, rfl, rfl⟩
    · exact .inl ⟨_, c, rfl, rfl⟩
  | cons x l => exact h.mutO k fun b off n c e => hn b off n c e (by simp)
set_option maxHeartbeats 2000000 in
theorem SayCut_any {S : Nat → Prop} {g : Nat} {R : RF} {vk : Value} (n : Int) (keep : List Bool) (w : World) (h : RfAt w S g R) (hk : RBo w vk keep) (hkl : keep.length ≤ 1000000) (hn : ∀ b off m c, vk = .slice (some ⟨b, off, none⟩) m c → keep ≠ [] → ¬ S b) (hn1 : n ≤ 9223372036854775807) :
    Calls Try.prog 42 #[.pointer (some ⟨g, 0, none⟩), .int .i64 n, vk] w fun e w' => e = .returned (.int .i64 (R.say n keep).2) ∧ RfTo S w w' g (R.say n keep).1 := by
  have F0 := RfTo.refl h
  obtain ⟨sv, kv, h⟩ := h
  obtain ⟨c0, c1, c2, c3, c4, fz, hlt⟩ := blk5 h.hg
  obtain ⟨nn, L, cut, kp, dead⟩ := R
  simp only at c0 c1 c2 c3 c4
  cases dead with
  | true =>
    rw [show RF.say ⟨nn, L, cut, kp, true⟩ n keep = (⟨nn, L, cut, kp, true⟩, 51) from rfl]
    have F := Lib.hid F0
    clear h F0 hk
    go_enter Try.func42, Try.ntmps42
    go_wp2
    go_ret
    exact ⟨rfl, F.out⟩
  | false =>
    by_cases hn0 : 0 ≤ n
    · rw [show RF.say ⟨nn, L, cut, kp, false⟩ n keep = (⟨nn, L, n, keep, false⟩, 0) by unfold RF.say; rw [if_neg (by simp), if_pos hn0]]
      have hs := set5_2 (.int .i64 n) h.hg
      have h1 := h.cells (R' := ⟨nn, L, n, kp, false⟩) sv kv rfl h.l h.kp h.sl h.sk h.ok
      have hT := rfTo_set h1 h.sg
      simp only at h1 hT hs
      rw [← hs] at h1 hT
      have hk1 := hk.mutE hT.2 hn
      obtain ⟨W1, hW1⟩ : ∃ W1, W1 = w.setCell ⟨g, 2, none⟩ (.int .i64 n) := ⟨_, rfl⟩
      have HT := Lib.hid hT
      have H1 := Lib.hid h1
      have HK1 := Lib.hid hk1
      clear h h1 hT hs F0 hk hk1
      go_enter Try.func42, Try.ntmps42
      go_upto_region 6 with fail
      rw [← hW1]
      rw [← hW1] at HT H1 HK1
      clear hW1 c0 c1 c2 c3 c4 fz hlt
      obtain ⟨kA, kc, rfl⟩ := HK1.out.form
      have ho := alloc_row0 W1 4 W1.heap.size 1 One (Nat.le_refl _)
      have hx := HK1.out.ext (extAl W1 (.cells #[] 4))
      obtain ⟨v', w2, hr, ho2, hb⟩ := app_bool (tx := 39) (ty := 39) ho (hx.src Try.underlying39) (by simp) (bcs_one keep) (by omega)
      simp only [Nat.zero_add, List.nil_append] at ho2
      have hb2 : Ext W1 w2 := Below.trans (extAl W1 _) hb
      have hg2 := H1.out.ext hb2
      have F2 := H1.out.take (R' := ⟨nn, L, n, keep, false⟩) hb2 sv v' rfl (H1.out.l.ext hb2) (ho2.mono (Nat.zero_le _)) (fun b hb => .inl (H1.out.sl b hb)) (fun b hb => .inr (own_gt ho2 hb)) H1.out.ok
      simp only at F2
      have hst := set5_3 v' hg2.hg
      simp only at hst
      have hgS := H1.out.sg
      rw [← hst] at F2
      have F := Lib.hid (RfTo.trans HT.out (F2.widen fun i hi => .inl hi))
      obtain ⟨d0, d1, d2, d3, d4, fz, hlt⟩ := blk5 hg2.hg
      obtain ⟨A', c', rfl⟩ := ho2.form
      have Hr := Lib.hid hr
      clear ho hx hr ho2 hb hb2 hg2 F2 hst HT H1 HK1
      go_wp2_with (refine wpList_app rfl (.tmp 18) (.tmp 19) 39 39 rfl Hr.out ?_; simp only [Act.put])
      go_ret
      exact ⟨rfl, F.out⟩
    · rw [show RF.say ⟨nn, L, cut, kp, false⟩ n keep = (⟨nn, L, cut, kp, false⟩, 1) by unfold RF.say; rw [if_neg (by simp), if_neg hn0]]
      have F := Lib.hid F0
      have hn2 : n < 0 := by omega
      clear h F0 hk hn0
      go_enter Try.func42, Try.ntmps42
      go_wp2
      go_ret
      exact ⟨rfl, F.out⟩
end Go.Proofs.Ytobcfocbglkicaa
