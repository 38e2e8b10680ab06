/- RecordWrites: the bytes of a record are the document's. -/
import Derived.Test.YtbbkailmlaffjaaRcP
set_option linter.unusedVariables false
set_option maxRecDepth 100000
namespace Go.Proofs.Ytbbkailmlaffjaa.recordWrites
open Go.Proofs.Ytbbkailmlaffjaa
open Go.RowKit Go.ChangeShapes Go.WideShapes Go.ChangeAt Go.Deep

theorem write_both (s : List UInt8) (h : s.length ≤ 10000) : ∃ (B : List UInt8) (e : Int), B.length ≤ 30000 ∧
    (∀ w : World, Calls Try.prog 14 #[.string (str s)] w fun r w' => ∃ v, r = .returned (.tuple #[v, .int .i64 e]) ∧ OwnZ w' w.heap.size 5 v B ∧ Below w.heap.size w w') ∧
    (∀ w : World, Calls Try.prog 15 #[.string (str s)] w fun r w' => r = .returned (.tuple #[.string (str B), .int .i64 e]) ∧ Below w.heap.size w w') := by
  have hm : s.length ≤ maxLen := by unfold maxLen; omega
  by_cases h4 : s.length ≤ 4096
  · exact ⟨fragB s true, 0, by rw [fragB_length]; omega, fun w => recWrite_yes s w h4, fun w => rWrite_yes s w h4⟩
  · exact ⟨[], 40, by simp, fun w => (recWrite_no s w h4 hm).mono fun e w' ⟨he, hb⟩ => ⟨_, he, OwnZ.nil, hb⟩, fun w => rWrite_no s w h4 hm⟩
theorem cut_both (s : List UInt8) (n : Int) (h : s.length ≤ 10000) (hn : n ≤ 9223372036854775807) : ∃ (B : List UInt8) (e : Int), B.length ≤ 30000 ∧
    (∀ w : World, Calls Try.prog 16 #[.string (str s), .int .i64 n] w fun r w' => ∃ v, r = .returned (.tuple #[v, .int .i64 e]) ∧ OwnZ w' w.heap.size 5 v B ∧ Below w.heap.size w w') ∧
    (∀ w : World, Calls Try.prog 17 #[.string (str s), .int .i64 n] w fun r w' => r = .returned (.tuple #[.string (str B), .int .i64 e]) ∧ Below w.heap.size w w') := by
  have hm : s.length ≤ maxLen := by unfold maxLen; omega
  by_cases h4 : s.length ≤ 4096
  · by_cases h1 : n < 1
    · exact ⟨[], 1, by simp, fun w => (recCut_arg s n w h4 h1).mono fun e w' ⟨he, hb⟩ => ⟨_, he, OwnZ.nil, hb⟩, fun w => rCut_arg s n w h4 h1⟩
    · obtain ⟨m, rfl⟩ : ∃ m : Nat, n = m := ⟨n.toNat, by omega⟩
      exact ⟨cutB m s.length s, 0, by have := cut_length (n := m) (by omega) s.length s (Nat.le_refl _); omega, fun w => recCut_yes s m w h4 (by omega) (by omega), fun w => rCut_yes s m w h4 (by omega) (by omega)⟩
  · exact ⟨[], 40, by simp, fun w => (recCut_no s n w h4 hm).mono fun e w' ⟨he, hb⟩ => ⟨_, he, OwnZ.nil, hb⟩, fun w => rCut_no s n w h4 hm⟩
set_option maxHeartbeats 4000000 in
theorem walk (s : List UInt8) (ws : s.length ≤ maxLen) (n : Int) (wn : (Lit.int .i64 n).wf = true) (w : World) :
    Calls Try.prog 4 #[.string (str s), .int .i64 n] w fun e w' => e = .returned (.bool true) ∧ Below w.heap.size w w' := by
  have hs := str_size s
  have hn : n ≤ 9223372036854775807 := by
    simp [Lit.wf] at wn
    omega
  clear wn
  unfold maxLen at ws
  by_cases hb : 10000 < s.length
  · go_enter Try.func4, Try.ntmps4
    go_wp2_with (go_at_call 8; refine (awake_any _).mono ?_; rintro e w1 ⟨rfl, h1⟩)
    go_ret
    exact ⟨rfl, h1⟩
  · have hb' : (s.length : Int) ≤ 10000 := by omega
    obtain ⟨B, e1, hB, kB, kB'⟩ := write_both s (by omega)
    obtain ⟨C, e2, hC, kC, kC'⟩ := cut_both s n (by omega) hn
    have KB := Lib.hid kB
    have KB' := Lib.hid kB'
    have KC := Lib.hid kC
    have KC' := Lib.hid kC'
    clear kB kB' kC kC'
    go_enter Try.func4, Try.ntmps4
    go_wp2_with fail
    refine (KB.out _).mono ?_
    rintro e w1 ⟨v1, rfl, z1, h1⟩
    have O1 := Lib.hid ((OSt.start (Z := Zn) w).pushOwn h1 (ownZ_row z1))
    obtain ⟨A1, c1, rfl⟩ := z1.rs.form
    clear z1 h1
    go_wp2_with fail
    refine (KB'.out _).mono ?_
    rintro e w2 ⟨rfl, h2⟩
    have O2 := Lib.hid (O1.out.ext h2)
    clear h2 O1 KB'
    go_wp2_with fail
    refine (KC.out _).mono ?_
    rintro e w3 ⟨v3, rfl, z3, h3⟩
    have O3 := Lib.hid (O2.out.pushOwn h3 (ownZ_row z3))
    obtain ⟨A3, c3, rfl⟩ := z3.rs.form
    clear z3 h3 O2 KC
    go_wp2_with fail
    refine (KC'.out _).mono ?_
    rintro e w4 ⟨rfl, h4⟩
    have O4 : Hid (OSt w [ownOb 5 1 (.slice A3 C.length c3) C.length (bvs C), ownOb 5 1 (.slice A1 B.length c1) B.length (bvs B)] w4) := Lib.hid (O3.out.ext h4)
    clear h4 O3 KC'
    have cB : (convert 22 9 (.slice A1 B.length c1)).run Try.prog w4 = .ok (.string (str B)) w4 := (own_rs (O4.out.own 1 rfl)).conv Try.underlying22 Try.underlying5 Try.underlying9
    have cC : (convert 22 9 (.slice A3 C.length c3)).run Try.prog w4 = .ok (.string (str C)) w4 := (own_rs (O4.out.own 0 rfl)).conv Try.underlying22 Try.underlying5 Try.underlying9
    have O5 : Hid (∃ cs, cs.length = B.length ∧ OSt w [ownOb 5 1 (.slice A1 B.length c1) B.length cs] w4) := Lib.hid ⟨bvs B, bvs_length _, O4.out.dropI 0⟩
    clear O4
    generalize hSB : str B = SB at *
    generalize hSC : str C = SC at *
    go_upto_region 10 with fail
    clear cB cC
    go_loopw [13] (fun iv wr => ∃ k : Nat, k ≤ B.length ∧ iv = .int .i64 k ∧ Hid (∃ cs, cs.length = B.length ∧ OSt w [ownOb 5 1 (.slice A1 B.length c1) B.length cs] wr)) (fun iv _ => B.length - (intOf iv).toNat)
    case atStart => exact ⟨0, Nat.zero_le _, rfl, O5⟩
    case round =>
      obtain ⟨k, hk, rfl, HO⟩ := hrel
      by_cases hkl : k < B.length
      · obtain ⟨cs, hcl, hO⟩ := HO.out
        have ho := hO.own 0 rfl
        obtain ⟨b, rfl, -, hbl, hcc, hj⟩ := ho.cells (by omega)
        have hcc := hcc (by decide)
        have hcell : wr.cell? ⟨b, k, none⟩ = some cs[k] := hj k (by omega)
        obtain ⟨row, hrow⟩ := own_blk ho (b := b) (by simp [Value.ownBlock])
        have hfz : ∀ o, wr.frozen? ⟨b, o, none⟩ = false := fun o => by simp [World.frozen?, hrow]
        have hO2 := hO.setOwn 0 (j := k) (x := .int .u8 0) rfl (by omega) rfl
        have HO2 := Lib.hid hO2
        clear ho hrow hj HO hO hO2
        go_wp2
        go_roundw
        case rel => exact ⟨k + 1, by omega, by go_num, Lib.hid ⟨cs.set k (.int .u8 0), by simpa using hcl, HO2.out⟩⟩
        case measure => simp only [intOf]; omega
      · obtain rfl : k = B.length := by omega
        obtain ⟨cs, hcl, hO⟩ := HO.out
        have HO1 := Lib.hid hO
        clear HO hO
        go_wp2_with fail
        refine (KB.out _).mono ?_
        rintro e w6 ⟨v6, rfl, z6, h6⟩
        have cB : (convert 22 9 v6).run Try.prog w6 = .ok (.string SB) w6 := by rw [← hSB]; exact z6.rs.conv Try.underlying22 Try.underlying5 Try.underlying9
        obtain ⟨A6, c6, rfl⟩ := z6.rs.form
        have HB6 := Lib.hid (HO1.out.bel.trans (Below.mono h6 HO1.out.bel.size))
        clear z6 h6 HO1
        go_wp2_with fail
        refine (awake_any _).mono ?_
        rintro e w7 ⟨rfl, h7⟩
        go_wp2_with fail
        go_ret
        exact ⟨rfl, HB6.out.trans (Below.mono h7 HB6.out.size)⟩
theorem own : ownKnob Try.prog.godebug = none := by kernel_rfl
theorem laidOut : laidOutB Try.prog = true := by kernel_rfl

set_option maxRecDepth 100000 in
theorem lifted (os : Os) (started : os.Started) (H : Type) (enc : TypeId × Value → H) :
    ReturnsInHanded {} Try.checked os 4 .any (Rows.recordWritesSpec.pre6 enc Try.prog Try.f4 Rows.recordWritesRow.domain false) (Rows.recordWritesSpec.post enc Try.prog Try.f4 false true false false) := by
  refine returnsInHanded_of_change (C := Try.checked) own started (by kernel_rfl) Try.func4
    (ChangeSpec.witness6 (enc := enc) (C := Try.checked) false ⟨#[], #[.string ⟨#[]⟩, .int .i64 0], []⟩ 8 (by kernel_rfl) (by kernel_rfl) (by kernel_rfl) (by kernel_rfl)) ?_
  intro W base args ds gs before hval0 hW hcnd _
  have hval : ∀ (j : Nat) t v, Try.f4.params[j]? = some t → args[j]? = some v → Value.okWide Try.prog W .any base t v := hval0
  have hW' := hW
  obtain ⟨p, q, hA0, hV, rfl, hfz, hnd⟩ := hW
  have hA : DataW.TrodAll enc Try.prog W 0 (fun _ => true) true Try.f4.params.toList args.toList ds p := hA0
  rw [Try.params4] at hA hval
  obtain ⟨v0, vs0, d0, ds0, p0, q0, hargs, rfl, rfl, h0, r0⟩ := trodAll_cons hA
  obtain ⟨v1, vs1, d1, ds1, p1, q1, rfl, rfl, rfl, h1, r1⟩ := trodAll_cons r0
  obtain ⟨rfl, rfl, rfl⟩ := trodAll_nil r1
  obtain rfl : args = #[v0, v1] := by cases args; simp_all
  obtain ⟨rfl, rfl⟩ := trodVars_none hV
  have k0 := h0
  have lt0 : ∀ x ∈ p0, x.block < W.heap.size := by obtain ⟨m, hm⟩ := k0; exact DataW.trod_lt m _ _ _ hm
  have k1 := h1
  have lt1 : ∀ x ∈ p1, x.block < W.heap.size := by obtain ⟨m, hm⟩ := k1; exact DataW.trod_lt m _ _ _ hm
  obtain ⟨l0, rfl, wl0⟩ := open_str Try.underlying9 (hval 0 _ v0 rfl rfl) h0
  obtain ⟨a1, rfl, -, -, wa1⟩ := open_int Try.underlying3 (hval 1 _ v1 rfl rfl) h1
  refine (walk l0 wl0 a1 wa1 W).mono fun e W' ⟨he, bel⟩ => ?_
  subst he
  exact ⟨_, rfl, _, _, _, [], _, [], hW', trodAll_mk1 (shut_bool Try.underlying4 _), (trodAll_cons_mk (Below.trod laidOut (by kernel_rfl) (of_decide_eq_true (by kernel_rfl)) k0 bel lt0) (trodAll_cons_mk (Below.trod laidOut (by kernel_rfl) (of_decide_eq_true (by kernel_rfl)) k1 bel lt1) trodAll_mk0)), rfl, bel.frame _, fun h => by cases h⟩

theorem proved : Rows.RecordWritesSaid :=
  OpenClaim.holds_of_wide 4 Try.f4 rfl rfl rfl rfl rfl rfl rfl ⟨rfl, rfl, rfl, rfl, rfl⟩ rfl rfl rfl rfl rfl (by kernel_rfl) Try.func4 (by kernel_rfl)
    (of_decide_eq_true (by kernel_rfl)) (by unfold Func.isWrapper; first | (rw [if_pos (by decide +kernel)]; kernel_rfl) | (rw [if_neg (by decide +kernel)]; exact ⟨rfl, rfl⟩))
    (fun os started H enc _ => lifted os started H enc)
end Go.Proofs.Ytbbkailmlaffjaa.recordWrites
