/- The claim ArgsResults: the walk of its law, and the statement. -/
import Derived.Test.YteahlnoonmfjhaaMv
import Derived.Test.YteahlnoonmfjhaaMu
import Derived.Test.YteahlnoonmfjhaaRsS
import Derived.Test.YteahlnoonmfjhaaRsG
import Derived.Test.YteahlnoonmfjhaaRsN
set_option linter.unusedVariables false
set_option maxRecDepth 100000
namespace Go.Proofs.Yteahlnoonmfjhaa.argsResults
open Go.RowKit Go.ChangeShapes Go.WideShapes Go.ChangeAt Go.Deep Go.Proofs.Yteahlnoonmfjhaa

theorem rs_okw {x : RsT} (h : x.Ok) (h1 : x.text.length ≤ 10000) (h2 : entSum x.ents < 100000) : x.Okw :=
  ⟨h.h, h.at_, by omega, h.n, h.free, h.used, h.verf, fun y hy => ⟨h.each y hy, by have := entSum_mem hy h2; omega⟩, by have := entSum_le x.ents; omega⟩
set_option maxHeartbeats 8000000 in
theorem walk (p : Int) (hp : (Lit.int .i64 p).wf = true) (y : RssT) (w : World) (hy : y.Ok w) (s : List UInt8) (hsl : s.length ≤ maxLen) :
    Calls Try.prog 5 #[.int .i64 p, y.v, .string (str s)] w fun e w' => e = .returned (.bool true) ∧ Below w.heap.size w w' := by
  obtain ⟨x, rv⟩ := y
  unfold RssT.v
  simp only
  have hok : x.Ok := hy.ok
  have hr : EnR w rv x.ents := hy.r
  have hI := i64_wf hp
  have ss := str_size s
  unfold maxLen at hsl
  have KL := Lib.hid (fun (w' : World) (k : Ext w w') => long_any' ag0 x rv w' (RR.ext hr k) ⟨Nat.zero_le _, Nat.zero_le _, Nat.zero_le _⟩ hok.text hok.ents (fun z hz => (hok.each z hz).name))
  have HR := Lib.hid hr
  have HOK := Lib.hid hok
  have HI := Lib.hid hI
  have hx1 := extAl w (.cells (rsC x rv).toArray 41)
  have hb1 := heap_alloc_last w (.cells (rsC x rv).toArray 41)
  clear hy hok hr hI
  go_enter Try.func5, Try.ntmps5
  go_upto_region 1 with fail
  generalize w.alloc (.cells (rsC x rv).toArray 41) = W1 at *
  generalize Value.agg (rsC x rv).toArray = PV
  have HL1 := Lib.hid (ldRs hb1)
  have HB1 := Lib.hid hb1
  have HX1 := Lib.hid hx1
  have KL1 := Lib.hid (KL.out _ hx1)
  clear hb1 hx1 KL
  go_wp2_with (refine wpList_ld rfl 41 (.tmp 4) rfl HL1.out ?_; simp only [Act.put])
  refine KL1.out.mono ?_
  rintro e w2 ⟨B, rfl, hb2, hB⟩
  have HX2 := Lib.hid (Ext.trans HX1.out hb2)
  have HG2 := Lib.hid (Ext.blk hb2 HB1.out)
  clear hb2 KL1
  cases B with
  | true =>
    go_wp2_with fail
    go_ret
    exact ⟨rfl, HX2.out⟩
  | false =>
  obtain ⟨-, -, -, h4, h5⟩ := hB rfl
  by_cases hs : (10000 : Int) < (s.length : Int)
  · clear h4 h5 hB
    go_wp2_with fail
    go_ret
    exact ⟨rfl, HX2.out⟩
  have hokw := rs_okw HOK.out (by omega) (by omega)
  have KT := Lib.hid (fun (w' : World) (k : Ext w w') => aTell_any p x rv w' HI.out hokw HOK.out.e (RR.ext HR.out k))
  have KU := Lib.hid (fun (w' : World) (k : Ext w w') => rTell_any p x rv w' HI.out hokw HOK.out.e (RR.ext HR.out k))
  have KQ := Lib.hid (fun w' : World => rHear_any p s w' HI.out (by omega))
  have KH := Lib.hid (fun w' : World => aHear_any p s w' HI.out (by omega))
  rw [aT_rT] at KT
  rw [aH_rH] at KH
  have hel := rH_ents p s
  generalize rT p x = X at *
  generalize rH p s = Y at *
  clear h4 h5 hB hokw HOK HR
  obtain ⟨X1, X2⟩ := X
  obtain ⟨Y1, Y2⟩ := Y
  generalize str X1 = T at *
  simp only at KT KU
  have HL2 := Lib.hid (ldRs HG2.out)
  have KT2 := Lib.hid (KT.out w2 HX2.out)
  clear HL1 HB1 HX1 KT
  go_wp2_with (refine wpList_ld rfl 41 (.tmp 4) rfl HL2.out ?_; simp only [Act.put])
  refine KT2.out.mono ?_
  rintro e w3 ⟨rfl, k3⟩
  have HG3 := Lib.hid (Ext.blk k3 HG2.out)
  have HX3 := Lib.hid (Ext.trans HX2.out k3)
  have HL3 := Lib.hid (ldRs HG3.out)
  have KU3 := Lib.hid (KU.out w3 HX3.out)
  clear HL2 HG2 HX2 k3 KT2 KU
  go_wp2_with (refine wpList_ld rfl 41 (.tmp 4) rfl HL3.out ?_; simp only [Act.put])
  refine KU3.out.mono ?_
  rintro e w4 ⟨rfl, k4⟩
  have HX4 := Lib.hid (Ext.trans HX3.out k4)
  clear HL3 HG3 HX3 k4 KU3
  go_wp2_with fail
  refine (KQ.out w4).mono ?_
  rintro e w5 ⟨rv5, rfl, o5, k5⟩
  obtain ⟨A5, c5, rfl⟩ := o5.form
  have HX5 := Lib.hid (Ext.trans HX4.out k5)
  have HN5 := Lib.hid (new_rsV w5 Y1 A5 Y1.ents.length c5)
  have hx6 := extAl w5 (.cells (rsC Y1 (.slice A5 Y1.ents.length c5)).toArray 41)
  have HO6 := Lib.hid (o5.ext hx6)
  have HG6 := Lib.hid (heap_alloc_last w5 (.cells (rsC Y1 (.slice A5 Y1.ents.length c5)).toArray 41))
  have HX6 := Lib.hid (Ext.trans HX5.out hx6)
  clear HX4 k5 o5 hx6 HX5 KQ
  go_upto_region 7 with (refine wpList_st rfl 41 (.tmp 11) (.tmp 41) rfl HN5.out ?_; simp only [Act.put]; clear HN5)
  generalize w5.alloc (.cells (rsC Y1 (.slice A5 Y1.ents.length c5)).toArray 41) = w6 at *
  generalize w5.heap.size = g11 at *
  generalize Value.agg (rsC Y1 (.slice A5 Y1.ents.length c5)).toArray = QV
  have hel : Y1.ents.length ≤ 64 := hel
  obtain ⟨nY, hnY⟩ : ∃ nY, Y1.ents.length = nY := ⟨_, rfl⟩
  have HNY := Lib.hid hnY
  have HEL : Hid (Y1.ents.length ≤ 64) := Lib.hid hel
  clear hnY hel
  go_loopw [13, 14, 15, 16] (fun iv _ _ _ wr => ∃ k : Nat, k ≤ 2 ∧ iv = .int .i64 k ∧ Hid (Ext w6 wr)) (fun iv _ _ _ _ => 2 - (intOf iv).toNat)
  case atStart => exact ⟨0, by omega, rfl, Lib.hid (Ext.refl _)⟩
  case round =>
    obtain ⟨k, hk, rfl, HXR⟩ := hrel
    by_cases hk2 : k < 2
    · go_wp2_with fail
      refine (KH.out wr).mono ?_
      rintro e w7 ⟨rv7, rfl, o7, k7⟩
      obtain ⟨A7, c7, rfl⟩ := o7.form
      have o7 : EnO w7 wr.heap.size (.slice A7 Y1.ents.length c7) Y1.ents := o7
      have HN7 := Lib.hid (new_rsV w7 Y1 A7 Y1.ents.length c7)
      have hx8 := extAl w7 (.cells (rsC Y1 (.slice A7 Y1.ents.length c7)).toArray 41)
      have HO8 := Lib.hid (o7.ext hx8)
      have HG8 := Lib.hid (heap_alloc_last w7 (.cells (rsC Y1 (.slice A7 Y1.ents.length c7)).toArray 41))
      have HX8 := Lib.hid (Ext.trans (a := wr) k7 hx8)
      have hg14 : wr.heap.size ≤ w7.heap.size := Below.size k7
      have HG14 := Lib.hid hg14
      clear k7 o7 hx8 hg14
      go_upto_region 10 with (refine wpList_st rfl 41 (.tmp 14) (.tmp 51) rfl HN7.out ?_; simp only [Act.put]; clear HN7)
      generalize w7.alloc (.cells (rsC Y1 (.slice A7 Y1.ents.length c7)).toArray 41) = w8 at *
      generalize w7.heap.size = g14 at *
      have h11 := Ext.blk (Ext.trans HXR.out HX8.out) HG6.out
      have KS := Lib.hid (rSame_eq Y1 (.slice A7 Y1.ents.length c7) (.slice A5 Y1.ents.length c5) w8 (HO8.out.rr (by decide)) ((HO6.out.ext (Ext.trans HXR.out HX8.out)).rr (by decide)) (by have := HEL.out; omega))
      have HLa := Lib.hid (ldRs HG8.out)
      have HLb := Lib.hid (ldRs h11)
      clear h11
      go_wp2_with (first | (refine wpList_ldB 41 (.tmp 14) rfl (by rfl) HLa.out ?_; simp only [Act.put]) | (refine wpList_ldwR 41 (.tmp 11) rfl (by rfl) HLb.out ?_; simp only [Act.put]))
      refine KS.out.mono ?_
      rintro e w9 ⟨rfl, k9⟩
      have HX9 := Lib.hid (Ext.trans HX8.out k9)
      have HG9 := Lib.hid (Ext.blk k9 HG8.out)
      have HR9 : Hid (0 < Y1.ents.length → ∃ b row7, A7 = some ⟨b, 0, none⟩ ∧ wr.heap.size ≤ b ∧ Y1.ents.length ≤ c7 ∧ b ≠ g14 ∧ Y1.ents.length * 3 ≤ row7.size ∧ w9.heap[b]? = some (.cells row7 66 (0, 0))) := Lib.hid (fun h0 => by
        obtain ⟨hl, ⟨_, h00⟩ | ⟨b, c', junk, hv, hB, hh, hcc, -⟩⟩ := HO8.out.ext k9
        · omega
        · cases hv
          refine ⟨b, _, rfl, hB, by omega, fun e => ?_, ?_, hh⟩
          · have h1 := HG9.out
            rw [← e, hh] at h1
            simp at h1
          · simp only [List.size_toArray, List.length_append]; omega)
      clear KS HLa HLb k9 HG8 HO8 HX8
      go_wp2_with fail
      obtain ⟨wo, hwo⟩ : ∃ wo : World, wo = wr := ⟨_, rfl⟩
      subst hwo
      go_loopw [16] (fun jv wj => ∃ j : Nat, j ≤ Y1.ents.length ∧ jv = .int .i64 j ∧ Hid (Ext wo wj) ∧ Hid (wj.heap[g14]? = some (.cells (rsC Y1 (.slice A7 Y1.ents.length c7)).toArray 41 (0, 0))) ∧ Hid (0 < Y1.ents.length → ∃ b row7, A7 = some ⟨b, 0, none⟩ ∧ wo.heap.size ≤ b ∧ Y1.ents.length ≤ c7 ∧ b ≠ g14 ∧ Y1.ents.length * 3 ≤ row7.size ∧ wj.heap[b]? = some (.cells row7 66 (0, 0)))) (fun jv _ => Y1.ents.length - (intOf jv).toNat)
      case atStart => exact ⟨0, Nat.zero_le _, rfl, HX9, HG9, HR9⟩
      case round =>
        obtain ⟨j, hj, rfl, HXj, HGj, HRj⟩ := hrel
        clear HX9 HG9 HR9
        obtain ⟨c17, ltg⟩ := rs_cell17 HGj.out
        by_cases hjn : j < Y1.ents.length
        · obtain ⟨b, row7, rfl, hb, hcc, hne, hsz, hh⟩ := HRj.out (by omega)
          have hfz : ∀ o, wr.frozen? ⟨b, o, none⟩ = false := fun o => by simp [World.frozen?, hh]
          have hltb := heap_lt hh
          obtain ⟨cv, hcv⟩ : ∃ u, wr.cell? ⟨b, j * 3, none⟩ = some u := ⟨row7[j * 3]'(by omega), by rw [cell_of_row _ _ _ _ _ _ hh]; exact Array.getElem?_eq_getElem (by omega)⟩
          go_wp2_with fail
          have hS := setCell_eq_setRow wr b (j * 3) _ 66 (0, 0) (.string ⟨#[63]⟩) hh
          rw [hS]
          refine ⟨⟨j + 1, by omega, by simp, Lib.hid (below_setRow HXj.out hb _), Lib.hid ((setRow_other wr b g14 _ (by omega)).trans HGj.out), Lib.hid fun _ => ⟨b, _, rfl, hb, hcc, hne, by simpa using hsz, setRow_heap _ _ _ _ _ _ hh⟩⟩, ?_⟩
          simp only [intOf]
          omega
        · obtain rfl : j = Y1.ents.length := by omega
          have HXE := Lib.hid (Ext.trans HXR.out HXj.out)
          clear HXj HGj HRj
          go_wp2_with fail
          refine ⟨⟨k + 1, by omega, by simp, HXE⟩, ?_⟩
          simp only [intOf]
          omega
    · obtain rfl : k = 2 := by omega
      have HXX := Lib.hid (Ext.trans HX6.out HXR.out)
      go_wp2_with fail
      go_ret
      exact ⟨by simp, HXX.out⟩

theorem own : ownKnob Try.prog.godebug = none := by kernel_rfl
theorem laidOut : laidOutB Try.prog = true := by kernel_rfl

set_option maxRecDepth 100000 in
theorem lifted (os : Os) (started : os.Started) (H : Type) (enc : TypeId × Value → H) :
    ReturnsInHanded {} Try.checked os 5 .any (Rows.argsResultsSpec.pre6 enc Try.prog Try.f5 Rows.argsResultsRow.domain false) (Rows.argsResultsSpec.post enc Try.prog Try.f5 false true false false) := by
  refine returnsInHanded_of_change (C := Try.checked) own started (by kernel_rfl) Try.func5
    (ChangeSpec.witness6 (enc := enc) (C := Try.checked) false ⟨#[], #[.int .i64 0, .agg #[.int .i64 0, .int .i64 0, .int .i64 0, .int .i64 0, .int .u8 0, .int .i64 0, .int .i64 0, .int .i64 0, .int .i64 0, .int .i64 0, .int .i64 0, .int .i64 0, .string ⟨#[]⟩, .int .i64 0, .int .i64 0, .int .u64 0, .bool false, .slice none 0 0, .int .u64 0], .string ⟨#[]⟩], []⟩ 8 (by kernel_rfl) (by kernel_rfl) (by kernel_rfl) (by kernel_rfl)) ?_
  intro W base args ds gs before hval0 hW hcnd _
  have hval : ∀ (j : Nat) t v, Try.f5.params[j]? = some t → args[j]? = some v → Value.okWide Try.prog W .any base t v := hval0
  have hW' := hW
  obtain ⟨p, q, hA0, hV, rfl, hfz, hnd⟩ := hW
  have hA : DataW.TrodAll enc Try.prog W 0 (fun _ => true) true Try.f5.params.toList args.toList ds p := hA0
  rw [Try.params5] at hA hval
  obtain ⟨v0, vs0, d0, ds0, p0, q0, hargs, rfl, rfl, h0, r0⟩ := trodAll_cons hA
  obtain ⟨v1, vs1, d1, ds1, p1, q1, rfl, rfl, rfl, h1, r1⟩ := trodAll_cons r0
  obtain ⟨v2, vs2, d2, ds2, p2, q2, rfl, rfl, rfl, h2, r2⟩ := trodAll_cons r1
  obtain ⟨rfl, rfl, rfl⟩ := trodAll_nil r2
  obtain rfl : args = #[v0, v1, v2] := by cases args; simp_all
  obtain ⟨rfl, rfl⟩ := trodVars_none hV
  have k0 := h0
  have lt0 : ∀ x ∈ p0, x.block < W.heap.size := by obtain ⟨m, hm⟩ := k0; exact DataW.trod_lt m _ _ _ hm
  have k1 := h1
  have lt1 : ∀ x ∈ p1, x.block < W.heap.size := by obtain ⟨m, hm⟩ := k1; exact DataW.trod_lt m _ _ _ hm
  have k2 := h2
  have lt2 : ∀ x ∈ p2, x.block < W.heap.size := by obtain ⟨m, hm⟩ := k2; exact DataW.trod_lt m _ _ _ hm
  obtain ⟨a0, rfl, -, -, wa0⟩ := open_int Try.underlying3 (hval 0 _ v0 rfl rfl) h0
  obtain ⟨x1, rfl, w1⟩ := open_Wresult (hval 1 _ v1 rfl rfl) h1
  obtain ⟨l2, rfl, wl2⟩ := open_str Try.underlying9 (hval 2 _ v2 rfl rfl) h2
  refine (walk (w := W) a0 wa0 x1 w1 l2 wl2).mono fun e W' ⟨he, bel⟩ => ?_
  subst he
  exact ⟨_, rfl, _, _, _, [], _, [], hW', trodAll_mk1 (shut_bool Try.underlying4 _), (trodAll_cons_mk (Below.trod laidOut (by kernel_rfl) (of_decide_eq_true (by kernel_rfl)) k0 bel lt0) (trodAll_cons_mk (Below.trod laidOut (by kernel_rfl) (of_decide_eq_true (by kernel_rfl)) k1 bel lt1) (trodAll_cons_mk (Below.trod laidOut (by kernel_rfl) (of_decide_eq_true (by kernel_rfl)) k2 bel lt2) trodAll_mk0))), rfl, bel.frame _, fun h => by cases h⟩

theorem proved : Rows.ArgsResultsSaid :=
  OpenClaim.holds_of_wide 5 Try.f5 rfl rfl rfl rfl rfl rfl rfl ⟨rfl, rfl, rfl, rfl, rfl⟩ rfl rfl rfl rfl rfl (by kernel_rfl) Try.func5 (by kernel_rfl)
    (of_decide_eq_true (by kernel_rfl)) (by unfold Func.isWrapper; first | (rw [if_pos (by decide +kernel)]; kernel_rfl) | (rw [if_neg (by decide +kernel)]; exact ⟨rfl, rfl⟩))
    (fun os started H enc _ => lifted os started H enc)
end Go.Proofs.Yteahlnoonmfjhaa.argsResults
