/- ArgsNames: parts of its walk. No statement of its own. (Printed by gen_argsnames.py.) -/
import Derived.Test.YteahlnoonmfjhaaArP
set_option linter.unusedVariables false
set_option linter.unusedSimpArgs false
set_option maxRecDepth 100000
namespace Go.Proofs.Yteahlnoonmfjhaa.argsNames
open Go.RowKit Go.ChangeShapes Go.WideShapes Go.ChangeAt Go.Deep Go.Proofs.Yteahlnoonmfjhaa
attribute [local go_sem ↓] neq_same05

set_option maxHeartbeats 16000000 in
theorem part1 : pk.p1 := by
  intro W S1 HS1 KM1 S2 HS2 KM2 S3 HS3 KM3 S4 HS4 KM4 w1 X J K' Q2 hJ hK
  (try simp only [List.append_eq, List.cons_append, List.nil_append])
  go_wp2_with (first
    | (go_at_call 38; refine (h05_any _ _).mono ?_; rintro e wa ⟨rfl, ka⟩; replace X := Lib.hid (Ext.trans X.out ka); clear ka)
    | (go_at_call 39; with_reducible refine (KM1.out _).mono ?_; rintro e wa ⟨rfl, ka⟩; replace X := Lib.hid (Ext.trans X.out ka); clear ka)
    | (go_at_call 39; with_reducible refine (KM2.out _).mono ?_; rintro e wa ⟨rfl, ka⟩; replace X := Lib.hid (Ext.trans X.out ka); clear ka)
    | (go_at_call 39; with_reducible refine (KM3.out _).mono ?_; rintro e wa ⟨rfl, ka⟩; replace X := Lib.hid (Ext.trans X.out ka); clear ka)
    | (go_at_call 39; with_reducible refine (KM4.out _).mono ?_; rintro e wa ⟨rfl, ka⟩; replace X := Lib.hid (Ext.trans X.out ka); clear ka)
    | (refine wpList_anTab _ rfl rfl HS1.out HS2.out HS3.out HS4.out (by rw [List.map_toArray]; kernel_rfl) ?_; simp only [Act.put]))
  generalize hCS : anTab.flatMap anC = CS at *
  go_wp2_with fail
  exact hJ _ _ (by kernel_rfl) (by kernel_rfl) ⟨_, rfl, rfl, rfl, Lib.hid (heap_alloc_last _ _), Lib.hid (Ext.trans X.out (extAl _ _))⟩

set_option maxHeartbeats 16000000 in
theorem part2 : pk.p2 := by
  intro W f1 wc g HG HX J K' Q2 hJ hK
  go_wp2_with fail
  go_loopw [131] (fun i wr => ∃ j : Nat, j ≤ 21 ∧ i = .int .i64 j ∧ Hid (wr.heap[g]? = some (.cells (anTab.flatMap anC).toArray TA (0, 0))) ∧ Hid (Ext W wr)) (fun i _ => 21 - (intOf i).toNat)
  case atStart => exact ⟨0, by omega, rfl, HG, HX⟩
  case round =>
    clear HG HX
    obtain ⟨j, hj, rfl, HG, HX⟩ := hrel
    by_cases hjl : j < 21
    · obtain ⟨r, hr⟩ : ∃ r, anTab[j]? = some r := ⟨_, List.getElem?_eq_getElem (by exact hjl)⟩
      have hm := List.mem_of_getElem? hr
      obtain ⟨ok1, ok2, ok3⟩ := an_ok hm
      have hE := an_e r hm
      have LD := Lib.hid (an_ld HG.out hr)
      have STN := Lib.hid (new_an wr r)
      have kx := extAl wr (.cells (anC r).toArray TA)
      have HX2 := Lib.hid (Ext.trans HX.out kx)
      have HG2 := Lib.hid (Ext.blk kx HG.out)
      have HR2 := Lib.hid (heap_alloc_last wr (.cells (anC r).toArray TA))
      obtain ⟨d0, d17, dlt⟩ := an_cells HR2.out
      have glt : g < wr.heap.size := (Array.getElem?_eq_some_iff.1 HG.out).1
      have KW := Lib.hid (fun w : World => aWrite_any r.1 r.2.1 w ok2 ok1)
      have KRR := Lib.hid (fun w : World => aRead_any r.1 (aW r.1 r.2.1).1 w ok2 ok3)
      have F1 := Lib.hid (fun h => aR_aW (p := r.1) ok1 h)
      generalize hQ : aW r.1 r.2.1 = Q at *
      obtain ⟨Q1, Q2⟩ := Q
      simp only at KW KRR F1 hE
      subst hE
      clear hQ kx hm hr ok1 ok2 ok3 HX HG
      generalize Value.agg (anC r).toArray = RV at *
      go_upto_region 6 with (first | (refine wpList_ld rfl TA (.tmp 133) rfl LD.out ?_; simp only [Act.put]) | (refine wpList_st rfl TA (.tmp 2) (.tmp 134) rfl STN.out ?_; simp only [Act.put]))
      generalize wr.alloc (.cells (anC r).toArray TA) = V2 at *
      generalize wr.heap.size = g2 at *
      have LA := Lib.hid (an_args HR2.out)
      clear LD STN glt
      generalize hRV2 : Value.agg (agC r.2.1).toArray = RA at *
      go_wp2_with (refine wpList_ld rfl 35 (.tmp 138) rfl LA.out ?_; simp only [Act.put])
      refine (KW.out _).mono ?_
      rintro e w4 ⟨rfl, k4⟩
      have HX4 := Lib.hid (Ext.trans HX2.out k4)
      have HG4 := Lib.hid (Ext.blk k4 HG2.out)
      have HR4 := Lib.hid (Ext.blk k4 HR2.out)
      clear d0 d17 dlt LA HX2 HG2 k4 KW
      obtain ⟨d0, d17, dlt⟩ := an_cells HR4.out
      go_wp2_with fail
      refine (KRR.out _).mono ?_
      rintro e w5 ⟨rfl, k5⟩
      clear d0 d17 dlt KRR HR2
      generalize aR r.1 Q1 = Z at *
      obtain ⟨Z1, Z2⟩ := Z
      have STN := Lib.hid (new_ag05 w5 Z1)
      have kx := Ext.trans (a := w4) k5 (extAl w5 (.cells (agC Z1).toArray 35))
      have HX6 := Lib.hid (Ext.trans HX4.out kx)
      have HG6 := Lib.hid (Ext.blk kx HG4.out)
      have HR6 := Lib.hid (Ext.blk kx HR4.out)
      have HZ6 := Lib.hid (heap_alloc_last w5 (.cells (agC Z1).toArray 35))
      clear kx k5 HX4 HG4 HR4
      generalize hZV : Value.agg (agC Z1).toArray = ZV at *
      go_upto_region 8 with (refine wpList_st rfl 35 (.tmp 5) (.tmp 148) rfl STN.out ?_; simp only [Act.put])
      generalize w5.alloc (.cells (agC Z1).toArray 35) = V6 at *
      generalize w5.heap.size = g5 at *
      obtain ⟨-, d17, dlt⟩ := an_cells HR6.out
      have LA := Lib.hid (an_args HR6.out)
      have LB := Lib.hid (ldAg HZ6.out)
      clear STN hZV hRV2 HR6 HZ6
      by_cases hE : r.2.2 = 0
      · obtain ⟨hz, -, -⟩ := F1.out hE
        simp only [Prod.mk.injEq] at hz
        obtain ⟨rfl, rfl⟩ := hz
        have q1 : (r.2.2 == 0) = true := by rw [hE]; rfl
        clear F1 hE
        generalize r.2.2 = E at *
        go_wp2_with (first | (refine wpList_ldB 35 (.tmp 5) rfl (by rfl) LB.out ?_; simp only [Act.put]) | (refine wpList_ldB 35 (.tmp 162) rfl (by rfl) LA.out ?_; simp only [Act.put]))
        go_roundw
        case rel => exact ⟨j + 1, by omega, by first | rfl | (simp; done) | go_num, HG6, HX6⟩
        case measure => first | (simp [intOf]; done) | (simp [intOf]; omega)
      · have q1 : (r.2.2 == 0) = false := beq_eq_false_iff_ne.2 hE
        clear F1 hE
        generalize r.2.2 = E at *
        go_wp2_with fail
        go_roundw
        case rel => exact ⟨j + 1, by omega, by first | rfl | (simp; done) | go_num, HG6, HX6⟩
        case measure => first | (simp [intOf]; done) | (simp [intOf]; omega)
    · obtain rfl : j = 21 := by omega
      go_wp2_with fail
      exact hJ _ _ (by kernel_rfl) (by kernel_rfl) HX
end Go.Proofs.Yteahlnoonmfjhaa.argsNames
