/- Walks of the document's disk: Write. -/
import Derived.Test.YtobcfocbglkicaaRfF
set_option linter.unusedVariables false
set_option maxRecDepth 100000
namespace Go.Proofs.Ytobcfocbglkicaa
open Go.RowKit

set_option maxHeartbeats 8000000 in
theorem rWrite_any {S : Nat → Prop} {g : Nat} {R : RF} (z : Int) {b : List UInt8} (w : World) (h : RfAt w S g R) (hb : b.length = 512) (hc : 0 ≤ R.cut ∧ R.cut ≤ 9223372036854775807) (hkl : R.keep.length ≤ 1000000) (hl : R.L.length ≤ 50000) :
    Calls Try.prog 39 #[.pointer (some ⟨g, 0, none⟩), .int .i64 z, .agg (bvs b).toArray] w fun e w' => e = .returned (.int .i64 (R.write z b).2) ∧ RfTo S w w' g (R.write z b).1 := by
  have hA := h
  obtain ⟨sv, kv, h⟩ := h
  obtain ⟨n, L, cut, kp, dead⟩ := R
  simp only at hc hkl hl
  cases dead with
  | true =>
    rw [show RF.write ⟨n, L, cut, kp, true⟩ z b = (⟨n, L, cut, kp, true⟩, 51) from rfl]
    clear hc
    have F := Lib.hid (RfTo.of_ext hA (extAl w (.cells (bvs b).toArray 25)))
    have h1 := h.ext (extAl w (.cells (bvs b).toArray 25))
    obtain ⟨c0, -, -, -, c4, fz, hlt⟩ := blk5 h1.hg
    simp only at c0 c4
    clear h hA h1
    go_enter Try.func39, Try.ntmps39
    go_wp2_with fail
    go_ret
    exact ⟨rfl, F.out⟩
  | false =>
    by_cases hz0 : z < 0
    · rw [show RF.write ⟨n, L, cut, kp, false⟩ z b = (⟨n, L, cut, kp, false⟩, 1) by unfold RF.write; rw [if_neg (by simp), if_neg (by omega)]]
      clear hc
      have F := Lib.hid (RfTo.of_ext hA (extAl w (.cells (bvs b).toArray 25)))
      have h1 := h.ext (extAl w (.cells (bvs b).toArray 25))
      obtain ⟨c0, -, -, -, c4, fz, hlt⟩ := blk5 h1.hg
      simp only at c0 c4
      clear h hA h1
      go_enter Try.func39, Try.ntmps39
      go_wp2_with fail
      go_ret
      exact ⟨rfl, F.out⟩
    by_cases hz1 : n ≤ z
    · rw [show RF.write ⟨n, L, cut, kp, false⟩ z b = (⟨n, L, cut, kp, false⟩, 1) by unfold RF.write; rw [if_neg (by simp), if_neg (by simp only; omega)]]
      have hz0 : 0 ≤ z := by omega
      clear hc
      have F := Lib.hid (RfTo.of_ext hA (extAl w (.cells (bvs b).toArray 25)))
      have h1 := h.ext (extAl w (.cells (bvs b).toArray 25))
      obtain ⟨c0, -, -, -, c4, fz, hlt⟩ := blk5 h1.hg
      simp only at c0 c4
      clear h hA h1
      go_enter Try.func39, Try.ntmps39
      go_wp2_with fail
      go_ret
      exact ⟨rfl, F.out⟩
    replace hz0 : 0 ≤ z := by omega
    replace hz1 : z < n := by omega
    have e : RF.write ⟨n, L, cut, kp, false⟩ z b = if ((⟨n, L ++ [(z, b, false)], cut, kp, false⟩ : RF).fails).2 then (((⟨n, L ++ [(z, b, false)], cut, kp, false⟩ : RF).fails.1.Fail ((⟨n, L ++ [(z, b, false)], cut, kp, false⟩ : RF).fails).1.keep).1, 51) else (((⟨n, L ++ [(z, b, false)], cut, kp, false⟩ : RF).fails).1, 0) := by
      unfold RF.write
      rw [if_neg (by simp), if_pos ⟨hz0, hz1⟩]
    rw [e]
    have kF := Lib.hid fun (S : Nat → Prop) (w : World) (h : RfAt w S g ⟨n, L ++ [(z, b, false)], cut, kp, false⟩) => fails_any w h hc
    obtain ⟨sL, sK, -, -⟩ := fails_same ⟨n, L ++ [(z, b, false)], cut, kp, false⟩
    clear e hA hc
    generalize RF.fails ⟨n, L ++ [(z, b, false)], cut, kp, false⟩ = Q at *
    obtain ⟨R1, fb⟩ := Q
    simp only at kF sL sK ⊢
    have hl1 : R1.L.length ≤ 100000 := by rw [sL, List.length_append, List.length_singleton]; omega
    have hk1 : R1.keep.length ≤ 1000000 := by rw [sK]; exact hkl
    clear sL sK
    have hzd0 : decide (z < 0) = false := by simp; omega
    have hzd1 : decide (n ≤ z) = false := by simp; omega
    have hzd2 : ¬ z < 0 := by omega
    have hzd3 : ¬ n ≤ z := by omega
    clear hz0 hz1
    have hok : ∀ p ∈ L, p.2.1.length = 512 := h.ok
    obtain ⟨A, c, rfl⟩ := h.l.form
    have X1 := Lib.hid (extAl w (.cells (bvs b).toArray 25))
    have H := Lib.hid (h.ext X1.out)
    have B5 := Lib.hid (heap_alloc_last w (.cells (bvs b).toArray 25))
    simp only at H
    clear h
    obtain ⟨c0, c1, c2, c3, c4, fz, hlt⟩ := blk5 H.out.hg
    simp only at c0 c1 c2 c3 c4
    go_enter Try.func39, Try.ntmps39
    go_upto_region 1 with fail
    generalize w.alloc (.cells (bvs b).toArray 25) = V at *
    generalize w.heap.size = g5 at *
    have HL : Hid (OwnR V 0 118 514 One (.slice A L.length c) L.length (rwcs L)) := Lib.hid H.out.l
    go_wp2_with fail
    have glt5 : g5 < V.heap.size := (Array.getElem?_eq_some_iff.1 B5.out).1
    obtain ⟨So, HSo⟩ : ∃ So : Nat → Prop, Hid (So = fun j => V.heap.size ≤ j) := ⟨_, Lib.hid rfl⟩
    have ng : ¬ So g := by rw [HSo.out]; omega
    have ng5 : ¬ So g5 := by rw [HSo.out]; omega
    have e0 : ∀ (ψ : World → Prop) (e : ExtS So V ψ), e.val.cell? ⟨g, 1, none⟩ = some (.slice A L.length c) := fun ψ e => e.cell c1 hlt ng
    have LB := Lib.hid fun w' (hw' : Mut So V w') => ld_blk ((hw'.block g5 glt5 ng5).trans B5.out) hb
    have BW := Lib.hid fun w' => build_rw2 z hb w'
    clear c0 c1 c2 c3 c4 fz ng ng5 glt5
    refine C.wp_region_piecesD So So 12 10 [0, 2, 3, 4, 5, 7, 8, 9] [(false, [1]), (false, [6])] [(false, [11])] (O := .cells (rwC (z, b, false)).toArray 118) (fun g => .slice (some ⟨g, 0, none⟩) 1 1) (by kernel_rfl) (fun _ h => h) (by kernel_rfl) rfl rfl ?_
    simp only [pick, List.map_cons, List.map_nil, List.flatMap_cons, List.flatMap_nil, Option.toList_some, List.singleton_append, List.drop_succ_cons, List.drop_zero, List.getElem?_cons_zero, List.getElem?_cons_succ]
    refine ⟨by kernel_rfl, ?_⟩; apply Exists.intro; refine ⟨fun ψ hψ hne => ?_, ?_⟩
    · iterate 6 (go_big_quiet_step (fail))
      go_big_quiet_want; refine quiet_ld 25 _ rfl (fun w' hw' => LB.out w' (exts_in hw')) ?_; go_simp; go_big_quiet_on
      go_big_quiet_want; refine quiet_bw 118 _ _ rfl (fun w' _ => BW.out w') ?_; go_simp; go_big_quiet_on
      exact wpQuiet_nil rfl
    refine ⟨fun w' => ?_, ?_⟩
    · refine exec_bs 114 (.tmp 30) rfl ?_
      rw [show Act.eval _ (.tmp 30) = Value.agg (rwC (z, b, false)).toArray from rfl]
      exact bs_rw (z, b, false) hb w'
    clear e0 LB BW
    intro wa ha K hK
    go_wp2_with fail
    refine hK _ _ (Mut.of_ext (extAl _ _)) ?_
    clear hK K
    intro wb hbb K hK
    have hza := Below.size ha
    have hxb : Ext V wb := Ext.trans (Ext.trans ha (extAl wa _)) hbb
    have hgb : wb.heap[wa.heap.size]? = some (.cells #[] 118 (0, 0)) := Ext.blk hbb (heap_alloc_last wa _)
    obtain ⟨v1, wb', hr1, ho1, hx1⟩ := app_rwE (tx := 114) (ty := 114) hgb ((HL.out.ext hxb).src (P := Try.prog) Try.underlying114 (rwcs_one L)) (B := V.heap.size) hza (rwcs_one L) (by omega)
    obtain ⟨A1, c1, rfl⟩ := ho1.form
    have Hr1 := Lib.hid hr1
    have HX1 := Lib.hid hx1
    have HO1 := Lib.hid ho1
    have HXb := Lib.hid (Ext.trans hxb hx1)
    clear ha hbb hxb hgb hr1 hx1 ho1 hza
    go_wp2_with (at_builtin; refine wpList_app rfl (.tmp 22) (.tmp 26) 114 114 rfl Hr1.out ?_; simp only [Act.put])
    refine hK _ _ (Mut.of_ext HX1.out) ?_
    clear hK K
    simp only [List.setIfInBounds_toArray, List.set_cons_zero, List.set_cons_succ]
    intro wc hcc g9 hg9 hO9
    intro wd hd K hK
    have hxd : Ext V wd := Ext.trans HXb.out (Ext.trans hcc hd)
    obtain ⟨v2, wd', hr2, ho2, hb2, hg2, hs2⟩ := app_rw (ty := 114) (HO1.out.ext (Ext.trans hcc hd)) (src_rw (Ext.blk hd hO9) hb) (Below.size hxd) (rwC_one _) (by omega)
    obtain ⟨A2, c2, rfl⟩ := ho2.form
    have Hr2 := Lib.hid hr2
    have MU : Hid (Mut So wd wd') := Lib.hid (Mut.of_grown hg2 fun b hb => by rw [HSo.out]; exact (own_gt HO1.out hb).1)
    have HXd : Hid (Ext V wd') := Lib.hid (Below.trans hxd hb2)
    have HO2 := Lib.hid ho2
    clear hr2 ho2 hb2 hg2 hs2 hxd hd hcc hO9 hg9 HO1 HXb HX1 Hr1
    go_wp2_with (at_builtin; refine wpList_app rfl (.tmp 27) (.tmp 31) 114 114 rfl Hr2.out ?_; simp only [Act.put])
    refine hK _ _ MU.out ?_
    clear hK K Hr2 MU
    simp only [List.setIfInBounds_toArray, List.set_cons_zero, List.set_cons_succ]
    intro we he
    have hxe : Ext V we := Ext.trans HXd.out he
    have h5 := H.out.ext hxe
    have F := H.out.take (R' := ⟨n, L ++ [(z, b, false)], cut, kp, false⟩) hxe (.slice A2 (L.length + 1) c2) kv rfl (by rw [List.length_append, List.length_singleton, rwcs_app, rwcs_single]; exact (HO2.out.ext he).mono (Nat.zero_le _)) h5.kp (fun b hb => .inr (own_gt (HO2.out.ext he) hb)) (fun b hb => .inl (H.out.sk b hb)) (fun p hp => by
      rcases List.mem_append.1 hp with hp | hp
      · exact hok p hp
      · rw [List.mem_singleton.1 hp]; exact hb)
    have hst := set5_1 (.slice A2 (L.length + 1) c2) h5.hg
    simp only at F hst
    rw [← hst] at F
    obtain ⟨-, d1, -, -, -, fz, hlte⟩ := blk5 h5.hg
    have T := Lib.hid (RfTo.after_ext X1.out F)
    have KF := Lib.hid (kF.out _ _ T.out.1)
    clear F hst h5 hxe he HO2 HXd kF H
    go_wp2_with fail
    refine KF.out.mono ?_
    rintro e w9 ⟨rfl, h9⟩
    have T9 := Lib.hid (T.out.trans h9)
    clear T KF d1 fz hlte
    cases fb with
    | true =>
      obtain ⟨sv, kv, q⟩ := h9.1
      have KX := Lib.hid (rFail_any R1.keep w9 T9.out.1 q.kp.rb hk1 hl1)
      obtain ⟨kA, kc, rfl⟩ := q.kp.form
      obtain ⟨-, -, -, c3, -, fz, hlt⟩ := blk5 q.hg
      clear h9 q
      go_wp2_with fail
      refine KX.out.mono ?_
      rintro e w2 ⟨rfl, h2⟩
      have F := Lib.hid (T9.out.trans h2)
      clear h2 KX c3 fz hlt
      go_wp2_with fail
      go_ret
      exact ⟨rfl, F.out⟩
    | false =>
      clear h9
      go_wp2_with fail
      go_ret
      exact ⟨rfl, T9.out⟩

end Go.Proofs.Ytobcfocbglkicaa
