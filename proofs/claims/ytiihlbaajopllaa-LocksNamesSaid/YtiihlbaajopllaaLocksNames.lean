/- Proved: LocksNames returns true. No condition. -/
import Derived.Test.YtiihlbaajopllaaLkT
import Derived.Test.YtiihlbaajopllaaLift
set_option linter.unusedVariables false
set_option maxRecDepth 100000
namespace Go.Proofs.Ytiihlbaajopllaa.locksNames
open Go.RowKit Go.ChangeShapes Go.WideShapes Go.ChangeAt Go.Deep Go.Proofs.Ytiihlbaajopllaa

def lkN (k : Nat) : List Tk := (0, []) :: (List.range k).map fun (j : Nat) => ((j : Int) + 1, [((9 : Int), true)])
theorem stepB : ∀ k : Nat, k < 15 → askB (lkN k) ((k : Int) + 1) [(9, true)] = decide (k = 0) ∧ askE (lkN k) ((k : Int) + 1) [(9, true)] = 0 ∧ askL (lkN k) ((k : Int) + 1) [(9, true)] = lkN (k + 1) := by decide +kernel
set_option maxHeartbeats 8000000 in
theorem walk (w : World) : Calls Try.prog 5 #[] w fun e w' => e = .returned (.bool true) ∧ Below w.heap.size w w' := by
  go_enter Try.func5, Try.ntmps5
  go_wp2_with fail
  refine (ask_nil 0 _ w).mono ?_
  rintro e w1 ⟨rfl, k1⟩
  go_wp2_with fail
  refine (drop_nil 0 w1).mono ?_
  rintro e w2 ⟨rfl, k2⟩
  have H2 : Hid (OSt (Z := Zf) w [] w2) := Lib.hid (((OSt.start w).ext k1).ext k2)
  clear k1 k2
  go_wp2_with fail
  refine (newO H2.out).mono ?_
  rintro e w3 ⟨g, rfl, h3⟩
  have Hw3 := Lib.hid h3
  clear h3 H2
  go_wp2_with fail
  refine (askO 0 Hw3.out rfl (-1) [] RR.nil (by decide) false 1 [] (by decide +kernel) (by decide +kernel) (by decide +kernel)).mono ?_
  rintro e w4 ⟨rfl, h⟩
  have Hw4 := Lib.hid h
  replace Hw4 : Hid (OSt w [lkOb g []] w4) := Hw4
  clear h Hw3
  have hA := Hw4.out.alloc (.cells (wncs [(0, false)]).toArray 52 (0, 0)) (nz (by decide))
  have HA := Lib.hid hA
  clear hA
  go_wp2_with fail
  refine (askO 1 HA.out rfl 0 [(0, false)] (rwn_row (l := [(0, false)]) (HA.out.get 0 rfl)) (by decide) false 1 [] (by decide +kernel) (by decide +kernel) (by decide +kernel)).mono ?_
  rintro e w5 ⟨rfl, h⟩
  have Hw5 := Lib.hid (h.dropI 0)
  replace Hw5 : Hid (OSt w [lkOb g []] w5) := Hw5
  clear h HA Hw4
  have hA := Hw5.out.alloc (.cells (wncs [(1, false), (1, true)]).toArray 52 (0, 0)) (nz (by decide))
  have HA := Lib.hid hA
  clear hA
  go_wp2_with fail
  refine (askO 1 HA.out rfl 0 [(1, false), (1, true)] (rwn_row (l := [(1, false), (1, true)]) (HA.out.get 0 rfl)) (by decide) false 1 [] (by decide +kernel) (by decide +kernel) (by decide +kernel)).mono ?_
  rintro e w6 ⟨rfl, h⟩
  have Hw6 := Lib.hid (h.dropI 0)
  replace Hw6 : Hid (OSt w [lkOb g []] w6) := Hw6
  clear h HA Hw5
  have hA := Hw6.out.alloc (.cells (wncs [(1, false), (2, false), (3, false), (4, false), (5, false)]).toArray 52 (0, 0)) (nz (by decide))
  have HA := Lib.hid hA
  clear hA
  go_wp2_with fail
  refine (askO 1 HA.out rfl 0 [(1, false), (2, false), (3, false), (4, false), (5, false)] (rwn_row (l := [(1, false), (2, false), (3, false), (4, false), (5, false)]) (HA.out.get 0 rfl)) (by decide) false 1 [] (by decide +kernel) (by decide +kernel) (by decide +kernel)).mono ?_
  rintro e w7 ⟨rfl, h⟩
  have Hw7 := Lib.hid (h.dropI 0)
  replace Hw7 : Hid (OSt w [lkOb g []] w7) := Hw7
  clear h HA Hw6
  go_wp2_with fail
  refine (askO 0 Hw7.out rfl 0 [] RR.nil (by decide) true 0 [(0, [])] (by decide +kernel) (by decide +kernel) (by decide +kernel)).mono ?_
  rintro e w8 ⟨rfl, h⟩
  have Hw8 := Lib.hid h
  replace Hw8 : Hid (OSt w [lkOb g [(0, [])]] w8) := Hw8
  clear h Hw7
  go_wp2_with fail
  refine (askO 0 Hw8.out rfl 0 [] RR.nil (by decide) false 6 [(0, [])] (by decide +kernel) (by decide +kernel) (by decide +kernel)).mono ?_
  rintro e w9 ⟨rfl, h⟩
  have Hw9 := Lib.hid h
  replace Hw9 : Hid (OSt w [lkOb g [(0, [])]] w9) := Hw9
  clear h Hw8
  go_wp2_with fail
  refine (drop0 0 Hw9.out rfl 1 5 [(0, [])] (by decide +kernel) (by decide +kernel) (by decide +kernel)).mono ?_
  rintro e w10 ⟨A10, c10, rfl, h10⟩
  have Hw10 : Hid (OSt w [lkOb g (lkN 0)] w10) := Lib.hid h10
  clear h10 Hw9
  go_wp2
  go_loopg [21] 16 (fun gg s wr => ∃ k : Nat, k ≤ 15 ∧ 16 - k ≤ gg ∧ s = .int .i64 ((k : Int) + 1) ∧ Hid (OSt w [lkOb g (lkN k)] wr))
  case atStart => exact ⟨0, by omega, by omega, rfl, Hw10⟩
  case round =>
    obtain ⟨k, hk, hg, rfl, H⟩ := hrel
    by_cases hlt : k < 15
    · have hlt' : (k : Int) + 1 < 16 := by omega
      obtain ⟨q1, q2, q3⟩ := stepB k hlt
      have hA := H.out.alloc (.cells (wncs [(9, true)]).toArray 52 (0, 0)) (nz (by decide))
      have HA := Lib.hid hA
      have K := Lib.hid (askO 1 HA.out rfl ((k : Int) + 1) [(9, true)] (rwn_row (l := [(9, true)]) (HA.out.get 0 rfl)) (by decide) _ _ _ q1 q2 q3)
      clear hA q1 q2 q3
      by_cases hk0 : k = 0
      · subst hk0
        go_wp2_with fail
        refine K.out.mono ?_
        rintro e wn ⟨rfl, h⟩
        have HN := Lib.hid (h.dropI 0)
        replace HN : Hid (OSt w [lkOb g (lkN (0 + 1))] wn) := HN
        clear h HA K H
        go_wp2
        go_roundg 15
        case measure => omega
        case rel => exact ⟨1, by omega, by omega, by go_num, HN⟩
      · have hk1 : ((k : Int) + 1 == 1) = false := by rw [beq_eq_false_iff_ne]; omega
        rw [decide_eq_false hk0] at K
        go_wp2_with fail
        refine K.out.mono ?_
        rintro e wn ⟨rfl, h⟩
        have HN := Lib.hid (h.dropI 0)
        replace HN : Hid (OSt w [lkOb g (lkN (k + 1))] wn) := HN
        clear h HA K H
        go_wp2
        go_roundg (16 - (k + 1))
        case measure => omega
        case rel => exact ⟨k + 1, by omega, by omega, by go_num, HN⟩
    · obtain rfl : k = 15 := by omega
      have H15 := H
      replace H15 : Hid (OSt w [lkOb g (lkN 15)] wr) := H15
      clear H
      go_wp2_with fail
      refine (askO 0 H15.out rfl 16 [] RR.nil (by decide) false 3 (lkN 15) (by decide +kernel) (by decide +kernel) (by decide +kernel)).mono ?_
      rintro e w20 ⟨rfl, h⟩
      have Hw20 := Lib.hid h
      replace Hw20 : Hid (OSt w [lkOb g (lkN 15)] w20) := Hw20
      clear h H15
      go_wp2_with fail
      refine (askO 0 Hw20.out rfl 3 [] RR.nil (by decide) false 6 (lkN 15) (by decide +kernel) (by decide +kernel) (by decide +kernel)).mono ?_
      rintro e w21 ⟨rfl, h⟩
      have Hw21 := Lib.hid h
      replace Hw21 : Hid (OSt w [lkOb g (lkN 15)] w21) := Hw21
      clear h Hw20
      go_wp2_with fail
      refine (drop1 0 Hw21.out rfl 1 [2] 0 ((lkN 15).eraseIdx 1) (by decide +kernel) (by decide) (by decide +kernel) (by decide +kernel)).mono ?_
      rintro e w22 ⟨b, c, junk, rfl, hc, h⟩
      have Hw22 : Hid (OSt w [inOb b [2] junk, lkOb g ((lkN 15).eraseIdx 1)] w22) := Lib.hid h
      clear h Hw21
      go_wp2_with fail
      refine (has_nil 0 w22).mono ?_
      rintro e w23 ⟨rfl, k23⟩
      go_wp2_with fail
      refine (row_nil w23).mono ?_
      rintro e w24 ⟨rfl, k24⟩
      go_wp2_with fail
      refine (copy_nil w24).mono ?_
      rintro e w25 ⟨rfl, k25⟩
      have Hw25 := Lib.hid (((Hw22.out.ext k23).ext k24).ext k25)
      have a25 := extAl w25 (.cells #[.int .i64 2] 3)
      have X3 := Lib.hid (Same_t [2] _ (rin_row (c := c) ((Hw25.out.ext a25).get 0 rfl) hc) (rin_row (l := [2]) (c := 1) (junk := []) (heap_alloc_last w25 (.cells #[.int .i64 2] 3)) (Nat.le_refl _)) (by decide))
      clear k23 k24 k25 Hw22
      go_wp2_with fail
      refine X3.out.mono ?_
      rintro e w26 ⟨rfl, k26⟩
      have HB := Lib.hid ((Hw25.out.ext a25).ext k26).bel
      clear X3 Hw25 a25 k26
      go_wp2_with fail
      refine (awake_any w26).mono ?_
      rintro e w27 ⟨rfl, k27⟩
      have HF := Lib.hid (HB.out.trans (k27.mono HB.out.size))
      clear k27 HB
      go_wp2
      go_ret
      exact ⟨rfl, HF.out⟩
theorem own : ownKnob Try.prog.godebug = none := by kernel_rfl
theorem laidOut : laidOutB Try.prog = true := by kernel_rfl

set_option maxRecDepth 100000 in
theorem lifted (os : Os) (started : os.Started) (H : Type) (enc : TypeId × Value → H) :
    ReturnsInHanded {} Try.checked os 5 .any (Rows.locksNamesSpec.pre6 enc Try.prog Try.f5 Rows.locksNamesRow.domain false) (Rows.locksNamesSpec.post enc Try.prog Try.f5 false true false false) := by
  refine returnsInHanded_of_change (C := Try.checked) own started (by kernel_rfl) Try.func5
    (ChangeSpec.witness6 (enc := enc) (C := Try.checked) false ⟨#[], #[], []⟩ 8 (by kernel_rfl) (by kernel_rfl) (by kernel_rfl) (by kernel_rfl)) ?_
  intro W base args ds gs before hval0 hW hcnd _
  have hval : ∀ (j : Nat) t v, Try.f5.params[j]? = some t → args[j]? = some v → Value.okWide Try.prog W .any base t v := hval0
  have hW' := hW
  obtain ⟨p, q, hA0, hV, rfl, hfz, hnd⟩ := hW
  have hA : DataW.TrodAll enc Try.prog W 0 (fun _ => true) true Try.f5.params.toList args.toList ds p := hA0
  rw [Try.params5] at hA hval
  obtain ⟨rfl, rfl, rfl⟩ := trodAll_none hA
  obtain ⟨rfl, rfl⟩ := trodVars_none hV
  refine (walk  W).mono fun e W' ⟨he, bel⟩ => ?_
  subst he
  exact ⟨_, rfl, _, _, _, [], _, [], hW', trodAll_mk1 (shut_bool Try.underlying4 _), trodAll_mk0, rfl, bel.frame _, fun h => by cases h⟩

theorem proved : Rows.LocksNamesSaid :=
  OpenClaim.holds_of_wide 5 Try.f5 rfl rfl rfl rfl rfl rfl rfl ⟨rfl, rfl, rfl, rfl, rfl⟩ rfl rfl rfl rfl rfl (by kernel_rfl) Try.func5 (by kernel_rfl)
    (of_decide_eq_true (by kernel_rfl)) (by unfold Func.isWrapper; first | (rw [if_pos (by decide +kernel)]; kernel_rfl) | (rw [if_neg (by decide +kernel)]; exact ⟨rfl, rfl⟩))
    (fun os started H enc _ => lifted os started H enc)
end Go.Proofs.Ytiihlbaajopllaa.locksNames
