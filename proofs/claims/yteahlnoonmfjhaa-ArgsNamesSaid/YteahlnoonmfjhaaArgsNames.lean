/- Proved: ArgsNames returns true. A closed statement. (Printed by gen_argsnames.py.) -/
import Derived.Test.YteahlnoonmfjhaaArA
import Derived.Test.YteahlnoonmfjhaaArD
import Derived.Test.YteahlnoonmfjhaaArE
import Derived.Test.YteahlnoonmfjhaaLift
set_option linter.unusedVariables false
set_option linter.unusedSimpArgs false
set_option maxRecDepth 100000
namespace Go.Proofs.Yteahlnoonmfjhaa.argsNames
open Go.RowKit Go.ChangeShapes Go.WideShapes Go.ChangeAt Go.Deep Go.Proofs.Yteahlnoonmfjhaa
attribute [local go_sem ↓] neq_same05

set_option maxHeartbeats 16000000 in
theorem part3 : pk.p3 := by
  intro W f2 wd B1 B2 TN TT TO TE W0 W1 I1 I2 I3 I4 I5 T1 T2 T3 T4 T5 T6 P2 P3 P4a P4b P4c P5a P5b P5c P5d P6a P6b SX z2 z3 z4 z5 z6 z7 z8 z9 z10 z11 z12 wa X J K' Q2 hJ hK
  have e1 := SX.out.e1
  have e2a := SX.out.e2a
  have e2 := SX.out.e2
  have e3a := SX.out.e3a
  have e3 := SX.out.e3
  have e4a := SX.out.e4a
  have e4b := SX.out.e4b
  have e4c := SX.out.e4c
  have e4 := SX.out.e4
  have e5a := SX.out.e5a
  have e5b := SX.out.e5b
  have e5c := SX.out.e5c
  have e5d := SX.out.e5d
  have e5 := SX.out.e5
  have e6a := SX.out.e6a
  have e6b := SX.out.e6b
  have e6 := SX.out.e6
  have sB1 := SX.out.sB1
  have sB2 := SX.out.sB2
  have sTN := SX.out.sTN
  have sTT := SX.out.sTT
  have sTO := SX.out.sTO
  have sTE := SX.out.sTE
  have sW0 := SX.out.sW0
  have sW1 := SX.out.sW1
  have sI1 := SX.out.sI1
  have sI2 := SX.out.sI2
  have sI3 := SX.out.sI3
  have sI4 := SX.out.sI4
  have sI5 := SX.out.sI5
  have sP2 := SX.out.sP2
  have sP3 := SX.out.sP3
  have sP4a := SX.out.sP4a
  have sP4b := SX.out.sP4b
  have sP4c := SX.out.sP4c
  have sP5a := SX.out.sP5a
  have sP5b := SX.out.sP5b
  have sP5c := SX.out.sP5c
  have sP5d := SX.out.sP5d
  have sP6a := SX.out.sP6a
  have sP6b := SX.out.sP6b
  (try simp only [List.append_eq, List.cons_append, List.nil_append])
  go_wp2_with (first
    | (go_at_call 38; refine (h05_any _ _).mono ?_; rintro e wa ⟨rfl, ka⟩; replace X := Lib.hid (Ext.trans X.out ka); clear ka)
    | (go_at_call 40; with_reducible refine (SX.out.kB1 _).mono ?_; rintro e wa ⟨rfl, ka⟩; replace X := Lib.hid (Ext.trans X.out ka); clear ka)
    | (go_at_call 40; with_reducible refine (SX.out.kB2 _).mono ?_; rintro e wa ⟨rfl, ka⟩; replace X := Lib.hid (Ext.trans X.out ka); clear ka)
    | (go_at_call 42; with_reducible refine (SX.out.kTN _).mono ?_; rintro e wa ⟨rfl, ka⟩; replace X := Lib.hid (Ext.trans X.out ka); clear ka)
    | (go_at_call 42; with_reducible refine (SX.out.kTT _).mono ?_; rintro e wa ⟨rfl, ka⟩; replace X := Lib.hid (Ext.trans X.out ka); clear ka)
    | (go_at_call 42; with_reducible refine (SX.out.kTO _).mono ?_; rintro e wa ⟨rfl, ka⟩; replace X := Lib.hid (Ext.trans X.out ka); clear ka)
    | (go_at_call 42; with_reducible refine (SX.out.kTE _).mono ?_; rintro e wa ⟨rfl, ka⟩; replace X := Lib.hid (Ext.trans X.out ka); clear ka)
    | (go_at_call 43; with_reducible refine (SX.out.kW0 _).mono ?_; rintro e wa ⟨rfl, ka⟩; replace X := Lib.hid (Ext.trans X.out ka); clear ka)
    | (go_at_call 43; with_reducible refine (SX.out.kW1 _).mono ?_; rintro e wa ⟨rfl, ka⟩; replace X := Lib.hid (Ext.trans X.out ka); clear ka)
    | (go_at_call 41; with_reducible refine (SX.out.kI1 _).mono ?_; rintro e wa ⟨rfl, ka⟩; replace X := Lib.hid (Ext.trans X.out ka); clear ka)
    | (go_at_call 41; with_reducible refine (SX.out.kI2 _).mono ?_; rintro e wa ⟨rfl, ka⟩; replace X := Lib.hid (Ext.trans X.out ka); clear ka)
    | (go_at_call 41; with_reducible refine (SX.out.kI3 _).mono ?_; rintro e wa ⟨rfl, ka⟩; replace X := Lib.hid (Ext.trans X.out ka); clear ka)
    | (go_at_call 41; with_reducible refine (SX.out.kI4 _).mono ?_; rintro e wa ⟨rfl, ka⟩; replace X := Lib.hid (Ext.trans X.out ka); clear ka)
    | (go_at_call 41; with_reducible refine (SX.out.kI5 _).mono ?_; rintro e wa ⟨rfl, ka⟩; replace X := Lib.hid (Ext.trans X.out ka); clear ka))
  exact hJ _ _ (by kernel_rfl) (by kernel_rfl) ⟨by first | rfl | simp, X⟩

set_option maxHeartbeats 16000000 in
theorem part6 : pk.p6 := by
  intro W S5 HS5 KM5 S6 HS6 KM6 f5 wc X T U Y0 Y Z0 Z1 ZA Z V1 V2 V3 c1 c2 c3 BX J K' Q2 hJ hK
  have eU := BX.out.eU
  have sT := BX.out.sT
  (try simp only [List.append_eq, List.cons_append, List.nil_append])
  go_wp2_with (first
    | (go_at_call 38; refine (h05_any _ _).mono ?_; rintro e wa ⟨rfl, ka⟩; replace X := Lib.hid (Ext.trans X.out ka); clear ka)
    | (go_at_call 40; with_reducible refine (BX.out.kT _).mono ?_; rintro e wa ⟨rfl, ka⟩; replace X := Lib.hid (Ext.trans X.out ka); clear ka)
    | (go_at_call 28; with_reducible refine (BX.out.r1 _).mono ?_; rintro e wa ⟨rfl, ka⟩; replace X := Lib.hid (Ext.trans X.out ka); clear ka)
    | (refine wpList_st rfl 35 (.tmp 27) (.tmp 395) rfl (BX.out.t1 _) ?_; simp only [Act.put]))
  exact hJ _ _ (by kernel_rfl) (by kernel_rfl) ⟨rfl, Lib.hid (Ext.trans X.out (extAl _ _))⟩

set_option maxHeartbeats 16000000 in
theorem part7 : pk.p7 := by
  intro W S5 HS5 KM5 S6 HS6 KM6 T U Y0 Y Z0 Z1 ZA Z V1 V2 V3 c1 c2 c3 BX f6 wc X J K' Q2 hJ hK
  (try simp only [List.append_eq, List.cons_append, List.nil_append])
  go_wp2_with (first
    | (go_at_call 39; with_reducible refine (KM5.out _).mono ?_; rintro e wa ⟨rfl, ka⟩; replace X := Lib.hid (Ext.trans X.out ka); clear ka)
    | (go_at_call 28; with_reducible refine (BX.out.r2 _).mono ?_; rintro e wa ⟨rfl, ka⟩; replace X := Lib.hid (Ext.trans X.out ka); clear ka)
    | (refine wpList_st rfl 35 (.tmp 29) (.tmp 400) rfl (BX.out.t2 _) ?_; simp only [Act.put]))
  exact hJ _ _ (by kernel_rfl) (by kernel_rfl) ⟨rfl, rfl, Lib.hid (Ext.trans X.out (extAl _ _))⟩

set_option maxHeartbeats 16000000 in
theorem part8 : pk.p8 := by
  intro W S5 HS5 KM5 S6 HS6 KM6 T U Y0 Y Z0 Z1 ZA Z V1 V2 V3 c1 c2 c3 BX f7 wc X J K' Q2 hJ hK
  (try simp only [List.append_eq, List.cons_append, List.nil_append])
  go_wp2_with (first
    | (go_at_call 28; with_reducible refine (BX.out.r3 _).mono ?_; rintro e wa ⟨rfl, ka⟩; replace X := Lib.hid (Ext.trans X.out ka); clear ka)
    | (refine wpList_st rfl 35 (.tmp 31) (.tmp 404) rfl (BX.out.t3 _) ?_; simp only [Act.put]))
  exact hJ _ _ (by kernel_rfl) (by kernel_rfl) ⟨rfl, rfl, rfl, Lib.hid (Ext.trans X.out (extAl _ _))⟩

set_option maxHeartbeats 16000000 in
theorem part9 : pk.p9 := by
  intro W S5 HS5 KM5 S6 HS6 KM6 T U Y0 Y Z0 Z1 ZA Z V1 V2 V3 c1 c2 c3 BX f8 wc X J K' Q2 hJ hK
  (try simp only [List.append_eq, List.cons_append, List.nil_append])
  go_wp2_with (first
    | (go_at_call 35; with_reducible refine (BX.out.h4 _).mono ?_; rintro e wa ⟨V, cs, rfl, st, ka⟩; replace X := Lib.hid (Ext.trans X.out ka); have ST := Lib.hid st; clear st ka)
    | (refine wpList_st rfl 41 (.tmp 33) (.tmp 408) rfl (ST.out _) ?_; simp only [Act.put]))
  exact hJ _ _ (by kernel_rfl) (by kernel_rfl) ⟨rfl, rfl, rfl, rfl, Lib.hid (Ext.trans X.out (extAl _ _))⟩

set_option maxHeartbeats 16000000 in
theorem part10 : pk.p10 := by
  intro W S5 HS5 KM5 S6 HS6 KM6 T U Y0 Y Z0 Z1 ZA Z V1 V2 V3 c1 c2 c3 BX f9 wc X J K' Q2 hJ hK
  (try simp only [List.append_eq, List.cons_append, List.nil_append])
  go_wp2_with (first
    | (go_at_call 35; with_reducible refine (BX.out.h5 _).mono ?_; rintro e wa ⟨V, cs, rfl, st, ka⟩; replace X := Lib.hid (Ext.trans X.out ka); have ST := Lib.hid st; clear st ka)
    | (refine wpList_st rfl 41 (.tmp 35) (.tmp 412) rfl (ST.out _) ?_; simp only [Act.put]))
  exact hJ _ _ (by kernel_rfl) (by kernel_rfl) ⟨rfl, rfl, rfl, rfl, rfl, Lib.hid (Ext.trans X.out (extAl _ _))⟩

set_option maxHeartbeats 16000000 in
theorem part11 : pk.p11 := by
  intro W S5 HS5 KM5 S6 HS6 KM6 T U Y0 Y Z0 Z1 ZA Z V1 V2 V3 c1 c2 c3 BX f10 wc X J K' Q2 hJ hK
  (try simp only [List.append_eq, List.cons_append, List.nil_append])
  go_wp2_with (first
    | (go_at_call 35; with_reducible refine (BX.out.h6 _).mono ?_; rintro e wa ⟨V, cs, rfl, st, ka⟩; replace X := Lib.hid (Ext.trans X.out ka); have ST := Lib.hid st; clear st ka)
    | (refine wpList_st rfl 41 (.tmp 37) (.tmp 416) rfl (ST.out _) ?_; simp only [Act.put]))
  exact hJ _ _ (by kernel_rfl) (by kernel_rfl) ⟨rfl, rfl, rfl, rfl, rfl, rfl, Lib.hid (Ext.trans X.out (extAl _ _))⟩

set_option maxHeartbeats 16000000 in
theorem part12 : pk.p12 := by
  intro W S5 HS5 KM5 S6 HS6 KM6 T U Y0 Y Z0 Z1 ZA Z V1 V2 V3 c1 c2 c3 BX f11 wc X J K' Q2 hJ hK
  have e7 := BX.out.e7
  have sY0 := BX.out.sY0
  (try simp only [List.append_eq, List.cons_append, List.nil_append])
  go_wp2_with (first
    | (go_at_call 44; with_reducible refine (BX.out.w7 _).mono ?_; rintro e wa ⟨A, k, c, rfl, hcv0, ka⟩; have hcv := hcv0 _ (Ext.refl _); replace X := Lib.hid (Ext.trans X.out ka); clear ka hcv0)
    | (go_at_call 35; with_reducible refine (BX.out.h7 _).mono ?_; rintro e wa ⟨V, cs, rfl, st, ka⟩; replace X := Lib.hid (Ext.trans X.out ka); have ST := Lib.hid st; clear st ka)
    | (refine wpList_st rfl 41 (.tmp 39) (.tmp 423) rfl (ST.out _) ?_; simp only [Act.put]))
  exact hJ _ _ (by kernel_rfl) (by kernel_rfl) ⟨rfl, rfl, rfl, rfl, rfl, rfl, rfl, Lib.hid (Ext.trans X.out (extAl _ _))⟩

set_option maxHeartbeats 16000000 in
theorem part13 : pk.p13 := by
  intro W S5 HS5 KM5 S6 HS6 KM6 T U Y0 Y Z0 Z1 ZA Z V1 V2 V3 c1 c2 c3 BX f12 wc X J K' Q2 hJ hK
  have e8a := BX.out.e8a
  have e8 := BX.out.e8
  have sZ0 := BX.out.sZ0
  have sZ1 := BX.out.sZ1
  have sZA := BX.out.sZA
  have sS6 := BX.out.sS6
  (try simp only [List.append_eq, List.cons_append, List.nil_append])
  refine wp_region_pieces 8  [(false, [0]), (true, [1]), (false, [2]), (true, [3, 4]), (false, [5]), (true, [6, 7])] (by kernel_rfl) (by kernel_rfl) ?_; simp only [pick, List.map_cons, List.map_nil, List.flatMap_cons, List.flatMap_nil, Option.toList_some, List.singleton_append, List.drop_succ_cons, List.drop_zero, List.getElem?_cons_zero, List.getElem?_cons_succ]
  intro u1 a1 K hK
  go_wp2_with (go_at_call 44; with_reducible refine (BX.out.w8 _).mono ?_; rintro e u2 ⟨A8, k8, n8, rfl, cv8, x8⟩)
  refine hK _ _ x8 ?_
  clear hK K
  have C8 := Lib.hid cv8
  have E2 := Lib.hid (Ext.trans a1 x8)
  clear a1 x8 cv8
  refine ⟨by kernel_rfl, ?_⟩; apply Exists.intro; refine ⟨fun ψ hψ hne => (by (repeat (first | ( go_big_quiet_want; refine quiet_cv 47 9 _ rfl (fun w' hw' => C8.out w' (ext_in hw')) ?_; go_simp; go_big_quiet_on ) | go_big_quiet_step ((  fail )))); exact wpQuiet_nil rfl), ?_⟩
  intro u3 a3 K hK
  go_wp2_with (go_at_call 44; with_reducible refine (BX.out.w9 _).mono ?_; rintro e u4 ⟨A9, k9, n9, rfl, cv9, x9⟩)
  refine hK _ _ x9 ?_
  clear hK K
  have C9 := Lib.hid cv9
  have E4 := Lib.hid (Ext.trans (Ext.trans E2.out a3) x9)
  clear a3 x9 cv9 E2 C8
  refine ⟨by kernel_rfl, ?_⟩; apply Exists.intro; refine ⟨fun ψ hψ hne => (by (repeat (first | ( go_big_quiet_want; refine quiet_cv 47 9 _ rfl (fun w' hw' => C9.out w' (ext_in hw')) ?_; go_simp; go_big_quiet_on ) | go_big_quiet_step ((  fail )))); exact wpQuiet_nil rfl), ?_⟩
  intro u5 a5 K hK
  go_wp2_with (go_at_call 39; with_reducible refine (KM6.out _).mono ?_; rintro e u6 ⟨rfl, x6⟩)
  refine hK _ _ x6 ?_
  clear hK K
  have E6 := Lib.hid (Ext.trans (Ext.trans E4.out a5) x6)
  clear a5 x6 E4 C9
  refine ⟨by kernel_rfl, ?_⟩; apply Exists.intro; refine ⟨fun ψ hψ hne => (by (repeat (go_big_quiet_step (( fail )))); exact wpQuiet_nil rfl), ?_⟩
  intro u7 a7
  go_wp2_with fail
  exact hJ _ _ (by kernel_rfl) (by kernel_rfl) ⟨rfl, rfl, rfl, rfl, rfl, rfl, rfl, rfl, Lib.hid (Ext.trans X.out (Ext.trans E6.out a7))⟩

set_option maxHeartbeats 16000000 in
theorem part14 : pk.p14 := by
  intro W S5 HS5 KM5 S6 HS6 KM6 T U Y0 Y Z0 Z1 ZA Z V1 V2 V3 c1 c2 c3 BX f13 wc X J K' Q2 hJ hK
  (try simp only [List.append_eq, List.cons_append, List.nil_append])
  go_wp2_with (first
    | (go_at_call 35; with_reducible refine (BX.out.h8 _).mono ?_; rintro e wa ⟨V, cs, rfl, st, ka⟩; replace X := Lib.hid (Ext.trans X.out ka); have ST := Lib.hid st; clear st ka)
    | (refine wpList_st rfl 41 (.tmp 42) (.tmp 435) rfl (ST.out _) ?_; simp only [Act.put]))
  exact hJ _ _ (by kernel_rfl) (by kernel_rfl) ⟨rfl, rfl, rfl, rfl, rfl, rfl, rfl, rfl, rfl, Lib.hid (Ext.trans X.out (extAl _ _))⟩

theorem walk (W : World) : Calls Try.prog 6 #[] W fun e w' => e = .returned (.bool true) ∧ Below W.heap.size W w' :=
  pk.h ⟨part1, part2, part3, part4, part5, part6, part7, part8, part9, part10, part11, part12, part13, part14⟩ W
theorem own : ownKnob Try.prog.godebug = none := by kernel_rfl
theorem laidOut : laidOutB Try.prog = true := by kernel_rfl

set_option maxRecDepth 100000 in
theorem lifted (os : Os) (started : os.Started) (H : Type) (enc : TypeId × Value → H) :
    ReturnsInHanded {} Try.checked os 6 .any (Rows.argsNamesSpec.pre6 enc Try.prog Try.f6 Rows.argsNamesRow.domain false) (Rows.argsNamesSpec.post enc Try.prog Try.f6 false true false false) := by
  refine returnsInHanded_of_change (C := Try.checked) own started (by kernel_rfl) Try.func6
    (ChangeSpec.witness6 (enc := enc) (C := Try.checked) false ⟨#[], #[], []⟩ 8 (by kernel_rfl) (by kernel_rfl) (by kernel_rfl) (by kernel_rfl)) ?_
  intro W base args ds gs before hval0 hW hcnd _
  have hval : ∀ (j : Nat) t v, Try.f6.params[j]? = some t → args[j]? = some v → Value.okWide Try.prog W .any base t v := hval0
  have hW' := hW
  obtain ⟨p, q, hA0, hV, rfl, hfz, hnd⟩ := hW
  have hA : DataW.TrodAll enc Try.prog W 0 (fun _ => true) true Try.f6.params.toList args.toList ds p := hA0
  rw [Try.params6] at hA hval
  obtain ⟨rfl, rfl, rfl⟩ := trodAll_none hA
  obtain ⟨rfl, rfl⟩ := trodVars_none hV
  refine (walk  W).mono fun e W' ⟨he, bel⟩ => ?_
  subst he
  exact ⟨_, rfl, _, _, _, [], _, [], hW', trodAll_mk1 (shut_bool Try.underlying4 _), trodAll_mk0, rfl, bel.frame _, fun h => by cases h⟩

theorem proved : Rows.ArgsNamesSaid :=
  OpenClaim.holds_of_wide 6 Try.f6 rfl rfl rfl rfl rfl rfl rfl ⟨rfl, rfl, rfl, rfl, rfl⟩ rfl rfl rfl rfl rfl (by kernel_rfl) Try.func6 (by kernel_rfl)
    (of_decide_eq_true (by kernel_rfl)) (by unfold Func.isWrapper; first | (rw [if_pos (by decide +kernel)]; kernel_rfl) | (rw [if_neg (by decide +kernel)]; exact ⟨rfl, rfl⟩))
    (fun os started H enc _ => lifted os started H enc)
end Go.Proofs.Yteahlnoonmfjhaa.argsNames
