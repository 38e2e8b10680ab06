/- Proved: NetNames returns true. A closed statement. -/
import Derived.Test.YteahlnoonmfjhaaNmA
import Derived.Test.YteahlnoonmfjhaaLift
set_option linter.unusedVariables false
set_option maxRecDepth 100000
namespace Go.Proofs.Yteahlnoonmfjhaa.netNames
open Go.RowKit Go.ChangeShapes Go.WideShapes Go.ChangeAt Go.Deep Go.Proofs.Yteahlnoonmfjhaa

set_option maxHeartbeats 16000000 in
theorem walk (W : World) : Calls Try.prog 3 #[] W fun e w' => e = .returned (.bool true) ∧ Below W.heap.size W w' := by
  obtain ⟨Z, HZ⟩ : ∃ Z : List UInt8, Hid (List.replicate 4097 0 = Z) := ⟨_, Lib.hid rfl⟩
  have HZL : Hid (Z.length = 4097) := Lib.hid (by rw [← HZ.out, List.length_replicate])
  have hpZ : ∀ Z : List UInt8, Z.length = 4097 → putE [] ⟨1, false, Z⟩ = 40 ∧ putN [] ⟨1, false, Z⟩ = [] := by
    intro Z hZ
    have : putE [] ⟨1, false, Z⟩ = 40 := by
      unfold putE
      rw [if_neg (by simp), if_pos (by simp only [hZ]; decide)]
    exact ⟨this, by unfold putN; rw [this]; rfl⟩
  go_enter Try.func3, Try.ntmps3
  go_wp2_with fail
  refine (nTake_nil 0 W).mono ?_
  rintro e w1 ⟨rfl, k1⟩
  have X1 := Lib.hid (Ext.trans k1 (extAl w1 (.cells #[.int .i64 0, .bool false, .string ⟨#[]⟩] 25)))
  clear k1
  go_upto_region 4 with fail
  generalize w1.alloc (.cells #[.int .i64 0, .bool false, .string ⟨#[]⟩] 25) = v1 at *
  go_wp2_with fail
  refine (cCall_nil 0 v1).mono ?_
  rintro e w2 ⟨rfl, k2⟩
  have X2 := Lib.hid (Ext.trans X1.out k2)
  clear k2 X1
  go_wp2_with fail
  refine (cAgain_nil 1 w2).mono ?_
  rintro e w3 ⟨rfl, k3⟩
  have X3 := Lib.hid (Ext.trans X2.out k3)
  clear k3 X2
  go_wp2_with fail
  refine (cHear_nil ⟨#[]⟩ w3).mono ?_
  rintro e w4 ⟨rfl, k4⟩
  have X4 := Lib.hid (Ext.trans (Ext.trans X3.out k4) (extAl w4 (.cells (rsC rs0 (.slice none 0 0)).toArray 41)))
  have HS4 := Lib.hid (new_rsA w4 rs0 none 0 0)
  clear k4 X3
  go_upto_region 7 with (refine wpList_st rfl 41 (.tmp 10) (.tmp 56) rfl HS4.out ?_; simp only [Act.put]; clear HS4)
  generalize w4.alloc (.cells (rsC rs0 (.slice none 0 0)).toArray 41) = v4 at *
  have H4 : Hid (OSt (Z := Z0) W [] v4) := Lib.hid ((OSt.start W).ext X4.out)
  clear X4
  go_wp2_with fail
  refine (nNewO H4.out).mono ?_
  rintro e w5 ⟨g, rfl, h5⟩
  have H5 : Hid (OSt W [netO g []] w5) := Lib.hid h5
  clear h5 H4
  go_wp2_with fail
  refine (nTake_k 0 H5.out rfl 0 (.agg #[.int .i64 0, .bool false, .string ⟨#[]⟩]) 5 [] rfl rfl rfl (Nat.zero_le _)).mono ?_
  rintro e w6 ⟨rfl, h6⟩
  have H6 : Hid (OSt W [netO g []] (w6.alloc (.cells #[.int .i64 0, .bool false, .string ⟨#[]⟩] 25))) := Lib.hid (OSt.ext h6 (extAl _ _))
  clear h6 H5
  go_upto_region 9 with fail
  generalize w6.alloc (.cells #[.int .i64 0, .bool false, .string ⟨#[]⟩] 25) = v6 at *
  go_wp2_with fail
  refine (nLose_k 0 H6.out rfl 0 5 [] rfl rfl (Nat.zero_le _)).mono ?_
  rintro e w7 ⟨rfl, h7⟩
  have H7 : Hid (OSt W [netO g []] w7) := Lib.hid h7
  clear h7 H6
  go_wp2_with fail
  refine (nDouble_k 0 H7.out rfl 0 5 [] rfl rfl (Nat.zero_le _)).mono ?_
  rintro e w8 ⟨rfl, h8⟩
  have H8 : Hid (OSt W [netO g []] w8) := Lib.hid h8
  clear h8 H7
  go_wp2_with fail
  refine (nPut_k 0 H8.out rfl ⟨0, false, []⟩ (.agg #[.int .i64 0, .bool false, .string ⟨#[]⟩]) 1 [] rfl (by decide) (by decide) (Nat.zero_le _)).mono ?_
  rintro e w9 ⟨rfl, h9⟩
  have H9 : Hid (OSt W [netO g []] w9) := Lib.hid h9
  clear h9 H8
  go_wp2_with fail
  refine (nPut_k 0 H9.out rfl ⟨17, false, []⟩ (.agg #[.int .i64 17, .bool false, .string ⟨#[]⟩]) 1 [] rfl (by decide) (by decide) (Nat.zero_le _)).mono ?_
  rintro e w10 ⟨rfl, h10⟩
  have H10 : Hid (OSt W [netO g []] w10) := Lib.hid h10
  clear h10 H9
  go_upto_region 11 with fail
  have hmk : (Instr.makeSlice 47 (.int .i64 4097) (.int .i64 4097)).run Try.prog w10 = .ok (.slice (some ⟨w10.heap.size, 0, none⟩) 4097 4097) (w10.alloc (.cells (bvs Z).toArray 5)) := by
    have := mkR w10 4097 4097 (by decide) (Nat.le_refl _)
    rw [HZ.out] at this
    exact this
  have hcv : (convert 47 9 (.slice (some ⟨w10.heap.size, 0, none⟩) 4097 4097)).run Try.prog (w10.alloc (.cells (bvs Z).toArray 5)) = .ok (.string (str Z)) (w10.alloc (.cells (bvs Z).toArray 5)) := by
    have h1 := rs_block (l := Z) (m := Z) (off := 0) (c := 4097) (heap_alloc_last w10 (.cells (bvs Z).toArray 5)) (by simp) (by rw [HZL.out]; exact Nat.le_refl _)
    rw [HZL.out] at h1
    exact RS.conv h1 Try.underlying47 Try.underlying5 Try.underlying9
  have H11 : Hid (OSt W [netO g []] (w10.alloc (.cells (bvs Z).toArray 5))) := Lib.hid (H10.out.ext (extAl _ _))
  have KP := Lib.hid (nPut_k 0 H11.out rfl ⟨1, false, Z⟩ (.agg #[.int .i64 1, .bool false, .string (str Z)]) 40 [] rfl (hpZ _ HZL.out).1 (hpZ _ HZL.out).2 (Nat.zero_le _))
  clear H10
  go_wp2_with fail
  refine KP.out.mono ?_
  rintro e w12 ⟨rfl, h12⟩
  have H12 : Hid (OSt W [netO g (List.replicate 0 p16)] w12) := Lib.hid h12
  clear h12 H11 KP hmk hcv
  go_wp2_with fail
  go_loopg [20] 256 (fun gg s wr => ∃ k : Nat, k ≤ 256 ∧ 256 - k ≤ gg ∧ s = .int .i64 k ∧ Hid (OSt W [netO g (List.replicate k p16)] wr))
  case atStart => exact ⟨0, Nat.zero_le _, by omega, rfl, H12⟩
  case round =>
    clear H12
    obtain ⟨k, hk, hg, rfl, H⟩ := hrel
    by_cases hlt : k < 256
    · have KP := Lib.hid (nPut_k 0 H.out rfl p16 (.agg #[.int .i64 16, .bool false, .string ⟨#[]⟩]) 0 (List.replicate (k + 1) p16) rfl (put16 k hlt).1 (put16 k hlt).2 (by rw [List.length_replicate]; omega))
      clear H
      go_wp2_with fail
      refine KP.out.mono ?_
      rintro e w13 ⟨rfl, h13⟩
      have H13 : Hid (OSt W [netO g (List.replicate (k + 1) p16)] w13) := Lib.hid h13
      clear h13 KP
      go_wp2_with fail
      go_roundg (256 - (k + 1))
      case measure => omega
      case rel => exact ⟨k + 1, by omega, by omega, by go_num, H13⟩
    · obtain rfl : k = 256 := by omega
      obtain ⟨R, HRp⟩ : ∃ R : List Pk, Hid (List.replicate 256 p16 = R) := ⟨_, Lib.hid rfl⟩
      have HRL : Hid (R.length = 256) := Lib.hid (by rw [← HRp.out, List.length_replicate])
      rw [HRp.out] at H
      have hp1 : putE R ⟨1, false, []⟩ = 3 ∧ putN R ⟨1, false, []⟩ = R := by
        have : putE R ⟨1, false, []⟩ = 3 := by unfold putE; rw [if_neg (by decide), if_neg (by decide), HRL.out]; rfl
        exact ⟨this, by unfold putN; rw [this]; rfl⟩
      have hd1 : (dblN R 5).1 = 3 ∧ (dblN R 5).2 = R := by rw [← HRp.out]; decide +kernel
      have KP := Lib.hid (nPut_k 0 H.out rfl ⟨1, false, []⟩ (.agg #[.int .i64 1, .bool false, .string ⟨#[]⟩]) 3 R rfl hp1.1 hp1.2 (by rw [HRL.out]; decide))
      have KD := Lib.hid fun (w' : World) (h' : OSt W [netO g R] w') => nDouble_k 0 h' rfl 5 3 R hd1.1 hd1.2 (by rw [HRL.out]; decide)
      clear H hp1 hd1
      go_wp2_with fail
      refine KP.out.mono ?_
      rintro e w14 ⟨rfl, h14⟩
      have KD1 := Lib.hid (KD.out w14 h14)
      clear h14 KP KD
      go_wp2_with fail
      refine KD1.out.mono ?_
      rintro e w15 ⟨rfl, h15⟩
      have H15 : Hid (OSt W [netO g R] w15) := Lib.hid h15
      clear h15 KD1
      go_wp2_with fail
      refine (cNewO_no H15.out 0 (by decide)).mono ?_
      rintro e w16 ⟨rfl, h16⟩
      have H16 := Lib.hid h16
      clear h16 H15
      go_wp2_with fail
      refine (cNewO_no H16.out 17 (by decide)).mono ?_
      rintro e w17 ⟨rfl, h17⟩
      have H17 := Lib.hid h17
      clear h17 H16
      go_wp2_with fail
      refine (cNewO_yes H17.out 16 (by decide)).mono ?_
      rintro e w18 ⟨gq, rfl, h18⟩
      have H18 : Hid (OSt W [clO gq 16 (c8 0).1 (c8 0).2, netO g R] w18) := Lib.hid h18
      clear h18 H17
      go_wp2_with fail
      go_loopg [29, 30, 31] 8 (fun gg s _ _ wr => ∃ k : Nat, k ≤ 8 ∧ 8 - k ≤ gg ∧ s = .int .i64 k ∧ Hid (OSt W [clO gq 16 (c8 k).1 (c8 k).2, netO g R] wr))
      case atStart => exact ⟨0, Nat.zero_le _, by omega, rfl, H18⟩
      case round =>
        clear H18
        obtain ⟨k, hk, hg, rfl, H⟩ := hrel
        by_cases hlt : k < 8
        · obtain ⟨q1, q2, q3⟩ := c8_ok k hlt
          have KP := Lib.hid (cCall_k 0 H.out rfl 0 ag0 (.agg #[.int .i64 0, .int .i64 0, .int .i64 0, .int .i64 0, .int .i64 0, .int .i64 0, .string ⟨#[]⟩, .string ⟨#[]⟩, .string ⟨#[]⟩, .int .i64 0, .int .i64 0, .int .i64 0, .int .i64 0, .int .i64 0, .int .i64 0, .int .u64 0]) (str (callR 16 (c8 k).1 (c8 k).2 0 ag0).r.1) 0 (c8 (k + 1)).1 (c8 (k + 1)).2 rfl rfl q1 rfl rfl (by rw [q2]; omega) ⟨by decide, by decide⟩ ag0_ok ⟨by rw [q3]; omega, by rw [q3]; omega⟩)
          generalize str (callR 16 (c8 k).1 (c8 k).2 0 ag0).r.1 = SB at *
          clear H q1 q2 q3
          go_wp2_with fail
          refine KP.out.mono ?_
          rintro e w19 ⟨rfl, h19⟩
          have H19 : Hid (OSt W [clO gq 16 (c8 (k + 1)).1 (c8 (k + 1)).2, netO g R] w19) := Lib.hid h19
          clear h19 KP
          go_wp2_with fail
          go_roundg (8 - (k + 1))
          case measure => omega
          case rel => exact ⟨k + 1, by omega, by omega, by go_num, H19⟩
        · obtain rfl : k = 8 := by omega
          obtain ⟨a1, a2, a3, a4, a5, a6, a7, a8⟩ := c8_8
          have KP := Lib.hid (cCall_k 0 H.out rfl 0 ag0 (.agg #[.int .i64 0, .int .i64 0, .int .i64 0, .int .i64 0, .int .i64 0, .int .i64 0, .string ⟨#[]⟩, .string ⟨#[]⟩, .string ⟨#[]⟩, .int .i64 0, .int .i64 0, .int .i64 0, .int .i64 0, .int .i64 0, .int .i64 0, .int .u64 0]) ⟨#[]⟩ 3 (c8 8).1 (c8 8).2 rfl (by rw [a3]; rfl) (by rw [a3]) a4 a5 (by rw [a1]; decide) ⟨by decide, by decide⟩ ag0_ok (by rw [a2]; decide))
          have KQ := Lib.hid fun (w' : World) (h' : OSt W [clO gq 16 (c8 8).1 (c8 8).2, netO g R] w') => cCall_k 0 h' rfl 99 ag0 (.agg #[.int .i64 0, .int .i64 0, .int .i64 0, .int .i64 0, .int .i64 0, .int .i64 0, .string ⟨#[]⟩, .string ⟨#[]⟩, .string ⟨#[]⟩, .int .i64 0, .int .i64 0, .int .i64 0, .int .i64 0, .int .i64 0, .int .i64 0, .int .u64 0]) ⟨#[]⟩ 62 (c8 8).1 (c8 8).2 rfl (by rw [a6]; rfl) (by rw [a6]) a7 a8 (by rw [a1]; decide) ⟨by decide, by decide⟩ ag0_ok (by rw [a2]; decide)
          clear H a1 a2 a3 a4 a5 a6 a7 a8
          go_wp2_with fail
          refine KP.out.mono ?_
          rintro e w20 ⟨rfl, h20⟩
          have KQ1 := Lib.hid (KQ.out w20 h20)
          clear h20 KP KQ
          go_wp2_with fail
          refine KQ1.out.mono ?_
          rintro e w21 ⟨rfl, h21⟩
          have Y0 := Lib.hid h21.bel
          clear h21 KQ1
          go_upto_region 29 with fail
          simp only [List.append_eq, List.cons_append, List.nil_append]
          go_wp2_with (first
            | (go_at_call 18; refine (nPut_nil _).mono ?_; rintro e x1 ⟨rfl, q1⟩; have Y1 := Lib.hid (Ext.trans Y0.out q1); clear q1 Y0)
            | (go_at_call 16; refine (nLose_nil 0 _).mono ?_; rintro e x2 ⟨rfl, q2⟩; have Y2 := Lib.hid (Ext.trans Y1.out q2); clear q2 Y1)
            | (go_at_call 17; refine (nDouble_nil 0 _).mono ?_; rintro e x3 ⟨rfl, q3⟩; have Y3 := Lib.hid (Ext.trans Y2.out q3); clear q3 Y2)
            | (go_at_call 20; refine (nRow_nil _).mono ?_; rintro e x4 ⟨rfl, q4⟩; have Y4 := Lib.hid (Ext.trans Y3.out q4); clear q4 Y3)
            | (go_at_call 21; refine (nCopy_nil _).mono ?_; rintro e x5 ⟨rfl, q5⟩; have Y5 := Lib.hid (Ext.trans Y4.out q5); clear q5 Y4)
            | (go_at_call 22; refine (cOpen_nil _).mono ?_; rintro e x6 ⟨rfl, q6⟩; have Y6 := Lib.hid (Ext.trans Y5.out q6); clear q6 Y5)
            | (go_at_call 23; refine (cCopy_nil _).mono ?_; rintro e x7 ⟨rfl, q7⟩; have Y7 := Lib.hid (Ext.trans Y6.out q7); clear q7 Y6)
            | (go_at_call 24; refine (awake30 _).mono ?_; rintro e x8 ⟨rfl, q8⟩; have Y8 := Lib.hid (Ext.trans Y7.out q8); clear q8 Y7))
          go_ret
          exact ⟨rfl, Y8.out⟩
theorem own : ownKnob Try.prog.godebug = none := by kernel_rfl
theorem laidOut : laidOutB Try.prog = true := by kernel_rfl

set_option maxRecDepth 100000 in
theorem lifted (os : Os) (started : os.Started) (H : Type) (enc : TypeId × Value → H) :
    ReturnsInHanded {} Try.checked os 3 .any (Rows.netNamesSpec.pre6 enc Try.prog Try.f3 Rows.netNamesRow.domain false) (Rows.netNamesSpec.post enc Try.prog Try.f3 false true false false) := by
  refine returnsInHanded_of_change (C := Try.checked) own started (by kernel_rfl) Try.func3
    (ChangeSpec.witness6 (enc := enc) (C := Try.checked) false ⟨#[], #[], []⟩ 8 (by kernel_rfl) (by kernel_rfl) (by kernel_rfl) (by kernel_rfl)) ?_
  intro W base args ds gs before hval0 hW hcnd _
  have hval : ∀ (j : Nat) t v, Try.f3.params[j]? = some t → args[j]? = some v → Value.okWide Try.prog W .any base t v := hval0
  have hW' := hW
  obtain ⟨p, q, hA0, hV, rfl, hfz, hnd⟩ := hW
  have hA : DataW.TrodAll enc Try.prog W 0 (fun _ => true) true Try.f3.params.toList args.toList ds p := hA0
  rw [Try.params3] at hA hval
  obtain ⟨rfl, rfl, rfl⟩ := trodAll_none hA
  obtain ⟨rfl, rfl⟩ := trodVars_none hV
  refine (walk  W).mono fun e W' ⟨he, bel⟩ => ?_
  subst he
  exact ⟨_, rfl, _, _, _, [], _, [], hW', trodAll_mk1 (shut_bool Try.underlying4 _), trodAll_mk0, rfl, bel.frame _, fun h => by cases h⟩

theorem proved : Rows.NetNamesSaid :=
  OpenClaim.holds_of_wide 3 Try.f3 rfl rfl rfl rfl rfl rfl rfl ⟨rfl, rfl, rfl, rfl, rfl⟩ rfl rfl rfl rfl rfl (by kernel_rfl) Try.func3 (by kernel_rfl)
    (of_decide_eq_true (by kernel_rfl)) (by unfold Func.isWrapper; first | (rw [if_pos (by decide +kernel)]; kernel_rfl) | (rw [if_neg (by decide +kernel)]; exact ⟨rfl, rfl⟩))
    (fun os started H enc _ => lifted os started H enc)
end Go.Proofs.Yteahlnoonmfjhaa.netNames
