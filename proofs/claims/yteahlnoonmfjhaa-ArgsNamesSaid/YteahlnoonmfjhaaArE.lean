/- ArgsNames: parts of its walk. No statement of its own. (Printed by gen_argsnames.py.) -/
import Derived.Test.YteahlnoonmfjhaaArP
set_option linter.unusedVariables false
set_option linter.unusedSimpArgs false
set_option maxRecDepth 100000
namespace Go.Proofs.Yteahlnoonmfjhaa.argsNames
open Go.RowKit Go.ChangeShapes Go.WideShapes Go.ChangeAt Go.Deep Go.Proofs.Yteahlnoonmfjhaa
attribute [local go_sem ↓] neq_same05

set_option maxHeartbeats 16000000 in
theorem part5 : pk.p5 := by
  intro W ge f4 wc g g1 HG HEN HX J K' Q2 hJ hK
  go_wp2_with fail
  obtain ⟨w0, hw0⟩ : ∃ w0 : World, w0 = wc := ⟨_, rfl⟩
  have H0 : Hid (Ext w0 wc) := by rw [hw0]; exact Lib.hid (Ext.refl _)
  rw [← hw0] at HEN
  clear hw0
  go_loopw [351] (fun i wr => ∃ j : Nat, j ≤ 24 ∧ i = .int .i64 j ∧ Hid (wr.heap[g]? = some (.cells ((rnRows ge g1).flatMap rnC).toArray TR (0, 0))) ∧ Hid (Ext w0 wr) ∧ Hid (Ext W wr)) (fun i _ => 24 - (intOf i).toNat)
  case atStart => exact ⟨0, by omega, rfl, HG, H0, HX⟩
  case round =>
    clear HG HX H0
    obtain ⟨j, hj, rfl, HG, H0, HX⟩ := hrel
    by_cases hjl : j < 24
    · obtain ⟨r, hr⟩ : ∃ r, (rnRows ge g1)[j]? = some r := ⟨_, List.getElem?_eq_getElem (by exact hjl)⟩
      have hm := List.mem_of_getElem? hr
      have ht := rnRows_tab hm
      obtain ⟨ok1, ok2, ok3, ok4⟩ := rn_ok ht
      have hE := rn_e r.1 ht
      have hBk := rn_backB r.1 ht
      obtain ⟨hen, A, n, c, hrv⟩ := HEN.out r hm
      have LD := Lib.hid (rn_ld HG.out hr)
      have STN := Lib.hid (new_rn wr r A n c hrv)
      have kx := extAl wr (.cells (rnC r).toArray TR)
      have HX2 := Lib.hid (Ext.trans HX.out kx)
      have HZ2 := Lib.hid (Ext.trans H0.out kx)
      have HG2 := Lib.hid (Ext.blk kx HG.out)
      have HR2 := Lib.hid (heap_alloc_last wr (.cells (rnC r).toArray TR))
      obtain ⟨d0, d20, dlt⟩ := rn_cells HR2.out
      have glt : g < wr.heap.size := (Array.getElem?_eq_some_iff.1 HG.out).1
      have KT := Lib.hid (fun (w : World) (k : Ext w0 w) => aTell_any r.1.1 r.1.2.1 r.2 w ok3 ok1 ok2 (RR.ext hen k))
      have KH := Lib.hid (fun w : World => aHear_any r.1.1 (aT r.1.1 r.1.2.1).1 w ok3 ok4)
      have HR := Lib.hid hen
      have HL : Hid (r.1.2.1.ents.length ≤ 100000) := Lib.hid ok1.ents
      have F1 := Lib.hid hBk
      generalize hQ : aT r.1.1 r.1.2.1 = Q at *
      obtain ⟨Q1, Q2⟩ := Q
      simp only at KT KH F1 hE
      subst hE
      clear hQ kx hm hr ht ok1 ok2 ok3 ok4 HX HG H0 hBk hen hrv
      generalize Value.agg (rnC r).toArray = RV at *
      go_upto_region 24 with (first | (refine wpList_ld rfl TR (.tmp 353) rfl LD.out ?_; simp only [Act.put]) | (refine wpList_st rfl TR (.tmp 22) (.tmp 354) rfl STN.out ?_; simp only [Act.put]))
      generalize wr.alloc (.cells (rnC r).toArray TR) = V2 at *
      generalize wr.heap.size = g2 at *
      have LA := Lib.hid (rn_res HR2.out)
      have KT2 := Lib.hid (KT.out _ HZ2.out)
      clear LD STN glt KT
      generalize hRV2 : Value.agg (rsC r.1.2.1 r.2).toArray = RA at *
      go_wp2_with (refine wpList_ld rfl 41 (.tmp 358) rfl LA.out ?_; simp only [Act.put])
      refine KT2.out.mono ?_
      rintro e w4 ⟨rfl, k4⟩
      have HX4 := Lib.hid (Ext.trans HX2.out k4)
      have HZ4 := Lib.hid (Ext.trans HZ2.out k4)
      have HG4 := Lib.hid (Ext.blk k4 HG2.out)
      have HR4 := Lib.hid (Ext.blk k4 HR2.out)
      clear d0 d20 dlt LA HX2 HG2 HZ2 k4 KT2
      obtain ⟨d0, d20, dlt⟩ := rn_cells HR4.out
      go_wp2_with fail
      refine (KH.out _).mono ?_
      rintro e w5 ⟨rv5, rfl, o5, k5⟩
      clear d0 d20 dlt KH HR2
      generalize aH r.1.1 Q1 = Z at *
      obtain ⟨Z1, Z2⟩ := Z
      simp only at o5
      obtain ⟨A5, c5, rfl⟩ := o5.form
      have STN := Lib.hid (new_rsV w5 Z1 A5 Z1.ents.length c5)
      have hx6 := extAl w5 (.cells (rsC Z1 (.slice A5 Z1.ents.length c5)).toArray 41)
      have HO6 := Lib.hid (o5.ext hx6)
      have kx := Ext.trans (a := w4) k5 hx6
      have HX6 := Lib.hid (Ext.trans HX4.out kx)
      have HZ6 := Lib.hid (Ext.trans HZ4.out kx)
      have HG6 := Lib.hid (Ext.blk kx HG4.out)
      have HR6 := Lib.hid (Ext.blk kx HR4.out)
      have HW6 := Lib.hid (heap_alloc_last w5 (.cells (rsC Z1 (.slice A5 Z1.ents.length c5)).toArray 41))
      clear kx hx6 o5 k5 HX4 HG4 HR4 HZ4
      generalize hZV : Value.agg (rsC Z1 (.slice A5 Z1.ents.length c5)).toArray = ZV at *
      go_upto_region 26 with (refine wpList_st rfl 41 (.tmp 25) (.tmp 368) rfl STN.out ?_; simp only [Act.put])
      generalize w5.alloc (.cells (rsC Z1 (.slice A5 Z1.ents.length c5)).toArray 41) = V6 at *
      generalize w5.heap.size = g5 at *
      obtain ⟨-, d20, dlt⟩ := rn_cells HR6.out
      have LA := Lib.hid (rn_res HR6.out)
      have LB := Lib.hid (ldRs HW6.out)
      clear STN hZV hRV2 HR6 HW6
      by_cases hE : r.1.2.2 = 0
      · have hz := F1.out hE
        simp only [Prod.mk.injEq] at hz
        obtain ⟨rfl, rfl⟩ := hz
        have q1 : (r.1.2.2 == 0) = true := by rw [hE]; rfl
        have KS := Lib.hid (rSame_eq r.1.2.1 (.slice A5 r.1.2.1.ents.length c5) r.2 V6 (HO6.out.rr (by decide)) (RR.ext HR.out HZ6.out) HL.out)
        clear F1 hE HO6 HR HL
        generalize r.1.2.2 = E at *
        go_wp2_with (first | (refine wpList_ldB 41 (.tmp 25) rfl (by rfl) LB.out ?_; simp only [Act.put]) | (refine wpList_ldB 41 (.tmp 382) rfl (by rfl) LA.out ?_; simp only [Act.put]))
        refine KS.out.mono ?_
        rintro e w9 ⟨rfl, k9⟩
        have HX9 := Lib.hid (Ext.trans HX6.out k9)
        have HZ9 := Lib.hid (Ext.trans HZ6.out k9)
        have HG9 := Lib.hid (Ext.blk k9 HG6.out)
        clear KS k9 HX6 HZ6 HG6 LA LB
        go_wp2_with fail
        go_roundw
        case rel => exact ⟨j + 1, by omega, by first | rfl | (simp; done) | go_num, HG9, HZ9, HX9⟩
        case measure => first | (simp [intOf]; done) | (simp [intOf]; omega)
      · have q1 : (r.1.2.2 == 0) = false := beq_eq_false_iff_ne.2 hE
        clear F1 hE HO6 HR HL LA LB
        generalize r.1.2.2 = E at *
        go_wp2_with fail
        go_roundw
        case rel => exact ⟨j + 1, by omega, by first | rfl | (simp; done) | go_num, HG6, HZ6, HX6⟩
        case measure => first | (simp [intOf]; done) | (simp [intOf]; omega)
    · obtain rfl : j = 24 := by omega
      go_wp2_with fail
      exact hJ _ _ (by kernel_rfl) (by kernel_rfl) HX
end Go.Proofs.Yteahlnoonmfjhaa.argsNames
