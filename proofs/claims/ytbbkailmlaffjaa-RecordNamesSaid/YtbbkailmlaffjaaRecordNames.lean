/- RecordNames: the examples; the limit; nobody's reader. Closed; no condition. -/
import Derived.Test.YtbbkailmlaffjaaRcT
set_option linter.unusedVariables false
set_option maxRecDepth 100000
namespace Go.Proofs.Ytbbkailmlaffjaa.recordNames
open Go.Proofs.Ytbbkailmlaffjaa
open Go.RowKit Go.ChangeShapes Go.WideShapes Go.ChangeAt Go.Deep

theorem own_lit {w : World} {T : TypeId} {row : Array Value} (l : List UInt8) (n : Nat) (hn : l.length = n) (h : row = (bvs l).toArray) : OwnR (w.alloc (.cells row T)) w.heap.size T 1 One (.slice (some ⟨w.heap.size, 0, none⟩) n n) n (bvs l) := by
  subst h hn
  refine ⟨by rw [bvs_length]; omega, .inr ⟨w.heap.size, l.length, [], rfl, Nat.le_refl _, ?_, by rw [bvs_length]; simp, ?_⟩⟩
  · rw [List.append_nil]; exact heap_alloc_last _ _
  · rw [List.append_nil]; exact bvs_one l
theorem made (n : Nat) (hn : n ≤ 100000) : ∃ Z : List UInt8, Z = zs n ∧ Z.length = n ∧ (∀ w : World, (Instr.makeSlice 22 (.int .i64 n) (.int .i64 n)).run Try.prog w = .ok (.slice (some ⟨w.heap.size, 0, none⟩) n n) (w.alloc (.cells (bvs Z).toArray 5))) ∧
    (∀ w : World, (convert 22 9 (.slice (some ⟨w.heap.size, 0, none⟩) n n)).run Try.prog (w.alloc (.cells (bvs Z).toArray 5)) = .ok (.string (str Z)) (w.alloc (.cells (bvs Z).toArray 5))) := by
  refine ⟨zs n, rfl, zs_length n, fun w => mkR w n n (by omega) (Nat.le_refl _), fun w => ?_⟩
  have := own_rs (own_lit (w := w) (T := 5) (zs n) n (zs_length n) rfl)
  exact this.conv Try.underlying22 Try.underlying5 Try.underlying9
theorem feed_body {h4 body x : List UInt8} {n held : Nat} {lst : Bool} (h : h4.length = 4) (hn : 0 < n) (hb : body.length + n ≤ 4096) (hx : x.length = n) :
    feed ⟨h4, n, lst, body, held, false⟩ x = if lst then (rdyR true [] 0, [body ++ x]) else (rdyR false (body ++ x) (held + n), []) := by
  subst hx
  have hx0 : x ≠ [] := List.length_pos_iff.1 hn
  have hok : (⟨h4, x.length, lst, body, held, false⟩ : Rc).Ok := ⟨Nat.le_of_eq h, fun _ => hn, fun h5 => by have : h4.length < 4 := h5; omega, hb, fun e => by cases e⟩
  rw [feed_eat hok rfl hx0 (by rw [if_pos h]; exact Nat.le_refl _)]
  have e3 : (⟨h4, x.length, lst, body, held, false⟩ : Rc).eat x = ⟨h4, 0, lst, body ++ x, held + x.length, false⟩ := by
    unfold Rc.eat
    rw [if_pos h]
    unfold Rc.eatB
    simp
  rw [e3]
  unfold Rc.fin
  rw [if_neg (by simp [h])]
  cases lst <;> simp [rdyR]
set_option maxHeartbeats 8000000 in
theorem walk (w : World) : Calls Try.prog 7 #[] w fun e w' => e = .returned (.bool true) ∧ Below w.heap.size w w' := by
  obtain ⟨Z6, hZ6, hl6, mk6, cv6⟩ := made 4096 (by omega)
  obtain ⟨Z7, hZ7, hl7, mk7, cv7⟩ := made 4097 (by omega)
  have mk6 : ∀ w : World, (Instr.makeSlice 22 (.int .i64 4096) (.int .i64 4096)).run Try.prog w = .ok (.slice (some ⟨w.heap.size, 0, none⟩) 4096 4096) (w.alloc (.cells (bvs Z6).toArray 5)) := mk6
  have mk7 : ∀ w : World, (Instr.makeSlice 22 (.int .i64 4097) (.int .i64 4097)).run Try.prog w = .ok (.slice (some ⟨w.heap.size, 0, none⟩) 4097 4097) (w.alloc (.cells (bvs Z7).toArray 5)) := mk7
  clear hZ6 hZ7
  obtain ⟨S1, hS1⟩ : ∃ S1 : Rc, S1 = ⟨[0, 0, 16, 0], 4096, false, [], 4, false⟩ := ⟨_, rfl⟩
  have f1 : Hid (feed rc0 [128, 0, 0, 0, 128, 0, 16, 1] = (rcShut, [[]])) := Lib.hid (by kernel_rfl)
  have f2 : Hid (feed rcShut [128, 0, 0, 0] = (rcShut, [])) := Lib.hid (by kernel_rfl)
  have f3 : Hid (feed rc0 [0, 0, 16, 0] = (S1, [])) := Lib.hid (by rw [hS1]; kernel_rfl)
  have f4 : Hid (feed S1 Z6 = (rdyR false Z6 4100, [])) := Lib.hid (by rw [hS1, feed_body rfl (by decide) (by decide) hl6]; rfl)
  have f5 : Hid (feed (rdyR false Z6 4100) [128, 0, 0, 1] = (rcShut, [])) := Lib.hid (feed_over (h4 := [128, 0, 0, 1]) (x := []) (by omega) rfl (by
    have : bn [128, 0, 0, 1] % 2147483648 = 1 := by kernel_rfl
    rw [this, hl6]; omega))
  have okS1 : Hid S1.Ok := Lib.hid (by have := feed_ok [0, 0, 16, 0] rc0_ok; rw [f3.out] at this; exact this)
  have okS2 : Hid (rdyR false Z6 4100).Ok := Lib.hid (rdy_ok (by omega))
  have hh1 : Hid ((S1.held : Int) = 4) := Lib.hid (by rw [hS1]; rfl)
  have hh2 : Hid (S1.held ≤ 100000000) := Lib.hid (by rw [hS1]; decide)
  have hs1 : Hid (shN S1.shut = 0) := Lib.hid (by rw [hS1]; rfl)
  clear hS1
  have KJ : Hid (∀ w : World, Calls Try.prog 16 #[.string ⟨#[97, 98, 99]⟩, .int .i64 2] w fun e w' => ∃ v, e = .returned (.tuple #[v, .int .i64 0]) ∧ OwnZ w' w.heap.size 5 v [0, 0, 0, 2, 97, 98, 128, 0, 0, 1, 99] ∧ Below w.heap.size w w') := Lib.hid fun w => by
    have h := recCut_yes [97, 98, 99] 2 w (by decide) (by decide) (by decide)
    rw [show cutB 2 ([97, 98, 99] : List UInt8).length [97, 98, 99] = [0, 0, 0, 2, 97, 98, 128, 0, 0, 1, 99] by kernel_rfl] at h
    exact h
  have KM : Hid (∀ w : World, Calls Try.prog 16 #[.string ⟨#[]⟩, .int .i64 5] w fun e w' => ∃ v, e = .returned (.tuple #[v, .int .i64 0]) ∧ OwnZ w' w.heap.size 5 v [128, 0, 0, 0] ∧ Below w.heap.size w w') := Lib.hid fun w => by
    have h := recCut_yes [] 5 w (by decide) (by decide) (by decide)
    rw [show cutB 5 ([] : List UInt8).length [] = [128, 0, 0, 0] by kernel_rfl] at h
    exact h
  have KO : Hid (∀ w : World, Calls Try.prog 14 #[.string (str Z7)] w fun e w' => e = .returned (.tuple #[.slice none 0 0, .int .i64 40]) ∧ Below w.heap.size w w') := Lib.hid fun w => recWrite_no Z7 w (by omega) (by unfold maxLen; omega)
  have KP : Hid (∀ w : World, Calls Try.prog 14 #[.string (str Z6)] w fun e w' => ∃ v, e = .returned (.tuple #[v, .int .i64 0]) ∧ OwnZ w' w.heap.size 5 v (fragB Z6 true) ∧ Below w.heap.size w w') := Lib.hid fun w => recWrite_yes Z6 w (by omega)
  have KQ : Hid (∀ w : World, Calls Try.prog 16 #[.string ⟨#[97]⟩, .int .i64 0] w fun e w' => e = .returned (.tuple #[.slice none 0 0, .int .i64 1]) ∧ Below w.heap.size w w') := Lib.hid fun w => recCut_arg [97] 0 w (by decide) (by decide)
  have KT : Hid (∀ w : World, Calls Try.prog 16 #[.string (str Z7), .int .i64 0] w fun e w' => e = .returned (.tuple #[.slice none 0 0, .int .i64 40]) ∧ Below w.heap.size w w') := Lib.hid fun w => recCut_no Z7 0 w (by omega) (by unfold maxLen; omega)
  have sh40 : shN rcShut.shut = 40 := rfl
  go_enter Try.func7, Try.ntmps7
  go_wp2_with fail
  refine (Feed_nil _).mono ?_
  rintro e w1 ⟨rfl, rfl⟩
  go_wp2_with fail
  refine (newO (OSt.start (Z := Zn) w1)).mono ?_
  rintro e w2 ⟨g, rfl, o2⟩
  have O2 := Lib.hid o2
  clear o2
  go_wp2_with fail
  have OA := Lib.hid (O2.out.pushOwn (extAl _ (.cells #[.int .u8 128, .int .u8 0, .int .u8 0, .int .u8 0, .int .u8 128, .int .u8 0, .int .u8 16, .int .u8 1] 5)) (own_lit [128, 0, 0, 0, 128, 0, 16, 1] 8 (by first | rfl | assumption) (by first | rfl | kernel_rfl)))
  have K := feedO OA.out 1 (g := g) (s := rc0) (v := .slice (some ⟨_, 0, none⟩) 8 8) (ch := [128, 0, 0, 0, 128, 0, 16, 1]) rfl rc0_ok (own_rs (OA.out.own 0 rfl)) (away_at OA.out (j := 0) rfl (by decide)) (by first | decide | omega) (by first | decide | exact hh2.out | (simp [rdyR]; done))
  rw [f1.out] at K
  have KF := Lib.hid K
  clear K
  refine KF.out.mono ?_
  rintro e w3 ⟨bv, rfl, o3⟩
  have O3 : Hid (OSt w1 [strOb bv [[]], rcOb g rcShut] w3) := Lib.hid (o3.dropI 1)
  clear o3 O2 OA KF
  go_wp2_with fail
  have OA := Lib.hid (O3.out.pushOwn (extAl _ (.cells #[.int .u8 128, .int .u8 0, .int .u8 0, .int .u8 0] 5)) (own_lit [128, 0, 0, 0] 4 (by first | rfl | assumption) (by first | rfl | kernel_rfl)))
  have K := feedO OA.out 2 (g := g) (s := rcShut) (v := .slice (some ⟨_, 0, none⟩) 4 4) (ch := [128, 0, 0, 0]) rfl rcShut_ok (own_rs (OA.out.own 0 rfl)) (away_at OA.out (j := 0) rfl (by decide)) (by first | decide | omega) (by first | decide | exact hh2.out | (simp [rdyR]; done))
  rw [f2.out] at K
  have KF := Lib.hid K
  clear K
  refine KF.out.mono ?_
  rintro e w4 ⟨dv, rfl, o4⟩
  obtain ⟨Ad, cd, rfl⟩ := (o4.own 0 rfl).form
  have O4 : Hid (OSt w1 [strOb bv [[]], rcOb g rcShut] w4) := Lib.hid ((o4.dropI 0).dropI 0)
  clear o4 O3 OA KF
  go_wp2_with fail
  refine (newO O4.out).mono ?_
  rintro e w5 ⟨gs, rfl, o5⟩
  have O5 := Lib.hid o5
  clear o5 O4
  go_wp2_with fail
  have OA := Lib.hid (O5.out.pushOwn (extAl _ (.cells #[.int .u8 0, .int .u8 0, .int .u8 16, .int .u8 0] 5)) (own_lit [0, 0, 16, 0] 4 (by first | rfl | assumption) (by first | rfl | kernel_rfl)))
  have K := feedO OA.out 1 (g := gs) (s := rc0) (v := .slice (some ⟨_, 0, none⟩) 4 4) (ch := [0, 0, 16, 0]) rfl rc0_ok (own_rs (OA.out.own 0 rfl)) (away_at OA.out (j := 0) rfl (by decide)) (by first | decide | omega) (by first | decide | exact hh2.out | (simp [rdyR]; done))
  rw [f3.out] at K
  have KF := Lib.hid K
  clear K
  refine KF.out.mono ?_
  rintro e w6 ⟨fv, rfl, o6⟩
  rw [hs1.out]
  have O6 : Hid (OSt w1 [rcOb gs S1, strOb bv [[]], rcOb g rcShut] w6) := Lib.hid ((o6.dropI 0).dropI 0)
  clear o6 O5 OA KF
  go_wp2_with fail
  refine (heldO O6.out 0 rfl).mono ?_
  rintro e w7 ⟨rfl, rfl⟩
  rw [hh1.out]
  go_wp2_with fail
  have OA := Lib.hid (O6.out.pushOwn (extAl _ (.cells (bvs Z6).toArray 5)) (own_lit Z6 4096 (by first | rfl | assumption) (by first | rfl | kernel_rfl)))
  have K := feedO OA.out 1 (g := gs) (s := S1) (v := .slice (some ⟨_, 0, none⟩) 4096 4096) (ch := Z6) rfl okS1.out (own_rs (OA.out.own 0 rfl)) (away_at OA.out (j := 0) rfl (by decide)) (by first | decide | omega) (by first | decide | exact hh2.out | (simp [rdyR]; done))
  rw [f4.out] at K
  have KF := Lib.hid K
  clear K
  refine KF.out.mono ?_
  rintro e w8 ⟨hv, rfl, o8⟩
  rw [show shN (rdyR false Z6 4100).shut = 0 from rfl]
  have O8 : Hid (OSt w1 [rcOb gs (rdyR false Z6 4100), strOb bv [[]], rcOb g rcShut] w8) := Lib.hid ((o8.dropI 0).dropI 0)
  clear o8 O6 OA KF
  go_wp2_with fail
  have OA := Lib.hid (O8.out.pushOwn (extAl _ (.cells #[.int .u8 128, .int .u8 0, .int .u8 0, .int .u8 1] 5)) (own_lit [128, 0, 0, 1] 4 (by first | rfl | assumption) (by first | rfl | kernel_rfl)))
  have K := feedO OA.out 1 (g := gs) (s := rdyR false Z6 4100) (v := .slice (some ⟨_, 0, none⟩) 4 4) (ch := [128, 0, 0, 1]) rfl okS2.out (own_rs (OA.out.own 0 rfl)) (away_at OA.out (j := 0) rfl (by decide)) (by first | decide | omega) (by first | decide | exact hh2.out | (simp [rdyR]; done))
  rw [f5.out] at K
  have KF := Lib.hid K
  clear K
  refine KF.out.mono ?_
  rintro e w9 ⟨iv, rfl, o9⟩
  have O9 : Hid (OSt w1 [strOb bv [[]], rcOb g rcShut] w9) := Lib.hid (((o9.dropI 0).dropI 0).dropI 0)
  clear o9 O8 OA KF
  go_wp2_with fail
  refine (KJ.out _).mono ?_
  rintro e w10 ⟨jv, rfl, z10, h10⟩
  have OJ := Lib.hid (O9.out.pushOwn h10 (ownZ_row z10))
  obtain ⟨Aj, cj, rfl⟩ := z10.rs.form
  clear z10 h10 O9
  go_wp2_with fail
  refine (KM.out _).mono ?_
  rintro e w11 ⟨mv, rfl, z11, h11⟩
  have o11 := OJ.out.pushOwn h11 (ownZ_row z11)
  obtain ⟨Am, cm, rfl⟩ := z11.rs.form
  have O11 : Hid (OSt w1 [ownOb 5 1 (.slice Am 4 cm) 4 (bvs [128, 0, 0, 0]), ownOb 5 1 (.slice Aj 11 cj) 11 (bvs [0, 0, 0, 2, 97, 98, 128, 0, 0, 1, 99]), strOb bv [[]], rcOb g rcShut] w11) := Lib.hid o11
  clear z11 h11 o11 OJ
  go_wp2_with fail
  refine (KO.out _).mono ?_
  rintro e w12 ⟨rfl, h12⟩
  have O12 := Lib.hid ((O11.out.ext (extAl _ _)).ext h12)
  clear h12 O11
  go_wp2_with fail
  refine (KP.out _).mono ?_
  rintro e w13 ⟨pv, rfl, z13, h13⟩
  obtain ⟨Ap, cp, rfl⟩ := z13.rs.form
  have O13 := Lib.hid ((O12.out.ext (extAl _ _)).ext h13)
  clear h13 O12 z13
  go_wp2_with fail
  refine (KQ.out _).mono ?_
  rintro e w14 ⟨rfl, h14⟩
  have O14 := Lib.hid (O13.out.ext h14)
  clear h14 O13
  go_wp2_with fail
  refine (KT.out _).mono ?_
  rintro e w15 ⟨rfl, h15⟩
  have O15 := Lib.hid ((O14.out.ext (extAl _ _)).ext h15)
  clear h15 O14 KJ KM KO KP KQ KT
  have CJ : (convert 22 9 (.slice Aj 11 cj)).run Try.prog w15 = .ok (.string ⟨#[0, 0, 0, 2, 97, 98, 128, 0, 0, 1, 99]⟩) w15 := (own_rs (l := [0, 0, 0, 2, 97, 98, 128, 0, 0, 1, 99]) (O15.out.own 1 rfl)).conv Try.underlying22 Try.underlying5 Try.underlying9
  have CM : (convert 22 9 (.slice Am 4 cm)).run Try.prog w15 = .ok (.string ⟨#[128, 0, 0, 0]⟩) w15 := (own_rs (l := [128, 0, 0, 0]) (O15.out.own 0 rfl)).conv Try.underlying22 Try.underlying5 Try.underlying9
  have ob : OwnR w15 0 9 1 One bv 1 [.string ⟨#[]⟩] := O15.out.own 2 rfl
  obtain ⟨Ab, cb, rfl⟩ := ob.form
  obtain ⟨gb, rfl, -, hlb, hcb, hjb⟩ := ob.cells (by decide)
  have cell := hjb 0 (by decide)
  have hcc := hcb (by decide)
  have KS : Hid (Calls Try.prog 13 #[.pointer (some ⟨g, 0, none⟩)] w15 fun e w' => e = .returned (.bool true) ∧ w' = w15) := Lib.hid (shutO O15.out 3 rfl)
  have KH : Hid (Calls Try.prog 12 #[.pointer (some ⟨g, 0, none⟩)] w15 fun e w' => e = .returned (.int .i64 0) ∧ w' = w15) := Lib.hid (heldO O15.out 3 rfl)
  have cell : w15.cell? ⟨gb, 0, none⟩ = some (.string ⟨#[]⟩) := cell
  have HB := Lib.hid O15.out.bel
  clear hjb hcb ob
  clear mk6 mk7 cv6 cv7 f1 f2 f3 f4 f5 okS1 okS2 hh1 hh2 sh40 hs1 O15
  go_wp2_with fail
  refine (Held_nil _).mono ?_
  rintro e wx ⟨rfl, rfl⟩
  go_wp2_with fail
  refine (Shut_nil _).mono ?_
  rintro e wx ⟨rfl, rfl⟩
  go_wp2_with fail
  refine (Copy_nil _).mono ?_
  rintro e wx ⟨rfl, rfl⟩
  go_wp2_with fail
  refine KS.out.mono ?_
  rintro e wx ⟨rfl, rfl⟩
  go_wp2_with fail
  refine KH.out.mono ?_
  rintro e wx ⟨rfl, rfl⟩
  go_wp2_with fail
  refine (awake_any _).mono ?_
  rintro e w16 ⟨rfl, h16⟩
  go_wp2_with fail
  go_ret
  exact ⟨rfl, HB.out.trans (Below.mono h16 HB.out.size)⟩
theorem own : ownKnob Try.prog.godebug = none := by kernel_rfl
theorem laidOut : laidOutB Try.prog = true := by kernel_rfl

set_option maxRecDepth 100000 in
theorem lifted (os : Os) (started : os.Started) (H : Type) (enc : TypeId × Value → H) :
    ReturnsInHanded {} Try.checked os 7 .any (Rows.recordNamesSpec.pre6 enc Try.prog Try.f7 Rows.recordNamesRow.domain false) (Rows.recordNamesSpec.post enc Try.prog Try.f7 false true false false) := by
  refine returnsInHanded_of_change (C := Try.checked) own started (by kernel_rfl) Try.func7
    (ChangeSpec.witness6 (enc := enc) (C := Try.checked) false ⟨#[], #[], []⟩ 8 (by kernel_rfl) (by kernel_rfl) (by kernel_rfl) (by kernel_rfl)) ?_
  intro W base args ds gs before hval0 hW hcnd _
  have hval : ∀ (j : Nat) t v, Try.f7.params[j]? = some t → args[j]? = some v → Value.okWide Try.prog W .any base t v := hval0
  have hW' := hW
  obtain ⟨p, q, hA0, hV, rfl, hfz, hnd⟩ := hW
  have hA : DataW.TrodAll enc Try.prog W 0 (fun _ => true) true Try.f7.params.toList args.toList ds p := hA0
  rw [Try.params7] at hA hval
  obtain ⟨rfl, rfl, rfl⟩ := trodAll_none hA
  obtain ⟨rfl, rfl⟩ := trodVars_none hV
  refine (walk  W).mono fun e W' ⟨he, bel⟩ => ?_
  subst he
  exact ⟨_, rfl, _, _, _, [], _, [], hW', trodAll_mk1 (shut_bool Try.underlying4 _), trodAll_mk0, rfl, bel.frame _, fun h => by cases h⟩

theorem proved : Rows.RecordNamesSaid :=
  OpenClaim.holds_of_wide 7 Try.f7 rfl rfl rfl rfl rfl rfl rfl ⟨rfl, rfl, rfl, rfl, rfl⟩ rfl rfl rfl rfl rfl (by kernel_rfl) Try.func7 (by kernel_rfl)
    (of_decide_eq_true (by kernel_rfl)) (by unfold Func.isWrapper; first | (rw [if_pos (by decide +kernel)]; kernel_rfl) | (rw [if_neg (by decide +kernel)]; exact ⟨rfl, rfl⟩))
    (fun os started H enc _ => lifted os started H enc)
end Go.Proofs.Ytbbkailmlaffjaa.recordNames
