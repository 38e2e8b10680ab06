/- Proved: RingPlays returns true, whatever steps it is called with, and each argument reads behind the call as before. The form's own reach: each slice takes at most 2^47 - 4096 bytes. -/
import Derived.Test.YtobcfocbglkicaaRpC
import Derived.Test.YtobcfocbglkicaaLift
import Derived.Deep.DeepCutAuto
import Derived.Deep.CutBlock
set_option linter.unusedVariables false
set_option maxRecDepth 100000
namespace Go.Proofs.Ytobcfocbglkicaa.ringPlays
open Go.RowKit Go.ChangeShapes Go.WideShapes Go.ChangeAt Go.Deep Go.Proofs.Ytobcfocbglkicaa
attribute [local go_sem ↓] eql_blk neq_blk neq_rroot

theorem wf_le {a : Int} (h : (Lit.int .i64 a).wf = true) : a ≤ 9223372036854775807 := by
  simp [Lit.wf, IntKind.min, IntKind.max, IntKind.signed, IntKind.bits] at h
  omega
set_option maxHeartbeats 16000000 in
theorem walk {w : World} (x : SREs) (hx : x.Ok w) : Calls Try.prog 13 #[x.v] w fun e w' => e = .returned (.bool true) ∧ Below w.heap.size w w' := by
  obtain ⟨v, l⟩ := x
  have hr := hx.r
  have he := hx.e
  have hlen := hx.len
  clear hx
  simp only at hr he hlen ⊢
  obtain ⟨A, c, rfl⟩ := hr.form
  have KL := Lib.hid (large09_any l w hr he hlen)
  have HR := Lib.hid hr
  have HE := Lib.hid he
  clear hr he hlen
  go_enter Try.func13, Try.ntmps13
  go_wp2_with fail
  refine KL.out.mono ?_
  rintro e w1 ⟨B, rfl, hB, h1⟩
  cases B with
  | true =>
    have F := Lib.hid h1
    clear hB h1
    go_wp2
    go_ret
    exact ⟨rfl, F.out⟩
  | false =>
    obtain ⟨h60, h3⟩ := hB rfl
    have H3 := Lib.hid h3
    have H1 : Hid (OSt w [] [] w1) := Lib.hid ((OSt.start w).ext h1)
    clear hB h1 h3 KL
    have KD := Lib.hid (new_o H1.out 64 (by omega) (by omega))
    have KN := Lib.hid fun w' (ds : List Ob) (h : OSt w [] ds w') => rnew_o h 64 (by omega) (by omega)
    go_wp2_with fail
    refine KD.out.mono ?_
    rintro e w2 ⟨gd, rfl, h2⟩
    have K2 := Lib.hid (KN.out _ _ h2)
    clear h2 KN KD H1
    go_wp2_with fail
    refine K2.out.mono ?_
    rintro e w3 ⟨gx, rfl, h3⟩
    have HT : Hid (DpT w [] 0 gd gx (newD 64 []) ⟨64, [], 0, [], false⟩ w3) := Lib.hid ⟨Tie.new 64, RF.Lim.new 64, by simp [newD], h3.swap⟩
    clear h3 K2
    go_wp2_with fail
    go_loopg [3, 5, 7] l.length (fun gg dv xv s wr => ∃ (k gd gx : Nat) (D : DK) (R : RF), k ≤ l.length ∧ l.length - k ≤ gg ∧ s = .int .i64 k ∧ dv = .pointer (some ⟨gd, 0, none⟩) ∧ xv = .pointer (some ⟨gx, 0, none⟩) ∧ Hid (DpT w [] k gd gx D R wr))
    case atStart => exact ⟨0, gd, gx, _, _, Nat.zero_le _, by omega, rfl, rfl, rfl, HT⟩
    case round =>
      clear HT
      obtain ⟨k, gd, gx, D, R, hk, hg, rfl, rfl, rfl, H2⟩ := hrel
      by_cases hlt : k < l.length
      · obtain ⟨b, off, rfl, hbw, hcc, -⟩ := HR.out.at (by omega)
        obtain ⟨x, hx⟩ : ∃ x, l[k]? = some x := ⟨_, List.getElem?_eq_getElem hlt⟩
        have HX := Lib.hid hx
        have HOK := Lib.hid (HE.out x (List.mem_of_getElem? hx))
        have hx3 := (H3.out x (List.mem_of_getElem? hx)).1
        have hnm := wf_le HOK.out.n
        obtain ⟨kA, kc, hkv⟩ := HOK.out.r.form
        have HKV := Lib.hid hkv
        clear hx hkv
        have hb2 : b < wr.heap.size := Nat.lt_of_lt_of_le hbw H2.out.st.bel.size
        obtain ⟨x0, x1, x2, x3, x4, -⟩ := RR.sre (HR.out.ext H2.out.st.bel) HX.out HOK.out.bk
        rw [HKV.out] at x4
        have LB : ∀ w', Mut (SoW w) wr w' → (Instr.loadAt 25 (.pointer (some ⟨b, off + k * 517 + 5, none⟩))).run Try.prog w' = .ok (bval x.bk) w' := fun w' hw' => (RR.sre ((HR.out.ext H2.out.st.bel).mutO hw' fun b' off' n' c' e hs => by
          cases e
          unfold SoW at hs
          omega) HX.out HOK.out.bk).2.2.2.2.2
        go_upto_block 2 with fail
        go_cut [3, 5, 8] (fun dv xv ok wx => ok = .bool true ∧ ∃ (gd' gx' : Nat) (D' : DK) (R' : RF), dv = .pointer (some ⟨gd', 0, none⟩) ∧ xv = .pointer (some ⟨gx', 0, none⟩) ∧ Hid (DpT w [] (k + 1) gd' gx' D' R' wx))
        case first => as_aux_lemma =>
          have ng : ¬ SoW w b := by unfold SoW; omega
          by_cases hk0 : x.k = 0
          · as_aux_lemma =>
            have hk0' : (x.k == 0) = true := by rw [hk0]; rfl
            obtain ⟨E, D1, R1, K1, K2⟩ := play_put H2.out (by omega) x.t x.s HOK.out.sl
            have K1 := Lib.hid K1
            have K2 := Lib.hid K2
            have e0 : ∀ (ψ : World → Prop) (e : ExtS (SoW w) wr ψ), e.val.cell? ⟨b, off + k * 517 + 1, none⟩ = some (.int .i64 x.t) := fun ψ e => e.cell x1 hb2 ng
            have e1 : ∀ (ψ : World → Prop) (e : ExtS (SoW w) wr ψ), e.val.cell? ⟨b, off + k * 517 + 2, none⟩ = some (.string (str x.s)) := fun ψ e => e.cell x2 hb2 ng
            have LR : Hid (∀ w', Mut (SoW w) wr w' → (Instr.loadAt 23 (.pointer (some ⟨b, off + k * 517 + 1, none⟩))).run Try.prog w' = .ok (.agg #[.int .i64 x.t, .string (str x.s)]) w') := Lib.hid fun w' hw' => run_ldroot ((hw'.cell hb2 ng).trans x1) ((hw'.cell hb2 ng).trans x2)
            clear x0 x1 x2 x3 x4 LB hk0 ng
            go_wp2_with fail
            refine wp_region_piecesS (SoW w) 22 [(true, [0, 1, 2, 3, 4, 5, 6, 7, 8, 9, 10, 11, 12, 13, 15, 16, 17, 18, 19, 20]), (false, [14]), (false, [21])] (by kernel_rfl) (by kernel_rfl) ?_; simp only [pick, List.map_cons, List.map_nil, List.flatMap_cons, List.flatMap_nil, Option.toList_some, List.singleton_append, List.drop_succ_cons, List.drop_zero, List.getElem?_cons_zero, List.getElem?_cons_succ]
            refine ⟨by kernel_rfl, ?_⟩; apply Exists.intro; refine ⟨fun ψ hψ hne => (by (repeat (first | ( go_big_quiet_want; refine quiet_ld 23 (.tmp 91) rfl (fun w' hw' => LR.out w' (exts_in hw')) ?_; go_simp; go_big_quiet_on ) | go_big_quiet_step ((  fail )))); exact wpQuiet_nil rfl), ?_⟩
            clear e0 e1 LR
            intro W0 h0 K hK
            have C1 := Lib.hid (K1.out W0 (H2.out.st.ext h0))
            clear h0 K1
            go_wp2_with (go_at_call 50; refine C1.out.mono ?_; rintro e w5 ⟨rfl, h5, m5⟩)
            refine hK _ _ m5 ?_
            clear hK K C1 m5
            intro W6 h6 K hK
            have C2 := Lib.hid (K2.out W6 (h5.ext h6))
            clear h5 h6 K2
            go_wp2_with (go_at_call 54; refine C2.out.mono ?_; rintro e w7 ⟨rfl, h7, m7⟩)
            refine hK _ _ m7 ?_
            clear hK K C2 m7
            intro w8 h8
            have H8 := Lib.hid (h7.ext h8)
            clear h7 h8
            go_wp2_with fail
            go_meet
            case rel => exact ⟨by first | rfl | simp, _, _, _, _, rfl, rfl, H8⟩
          have hk0' : (x.k == 0) = false := by rw [beq_eq_false_iff_ne]; exact hk0
          by_cases hk1 : x.k = 1
          · as_aux_lemma =>
            have hk1' : (x.k == 1) = true := by rw [hk1]; rfl
            obtain ⟨E, D1, R1, K1, K2⟩ := play_flush H2.out (by omega)
            have K1 := Lib.hid (K1 _ H2.out.st)
            have K2 := Lib.hid K2
            clear x0 x1 x2 x3 x4 LB hk0 hk1 ng
            go_wp2_with fail
            refine K1.out.mono ?_
            rintro e w5 ⟨rfl, h5⟩
            have C2 := Lib.hid (K2.out _ h5)
            clear h5 K1 K2
            go_wp2_with fail
            refine C2.out.mono ?_
            rintro e w7 ⟨rfl, h7⟩
            have H8 := Lib.hid (h7.mono (k' := k + 1) (by omega))
            clear h7 C2
            go_wp2_with fail
            go_meet
            case rel => exact ⟨by first | rfl | simp, _, _, _, _, rfl, rfl, H8⟩
          have hk1' : (x.k == 1) = false := by rw [beq_eq_false_iff_ne]; exact hk1
          have KV : Hid (∀ w', Ext w w' → RBo w' (.slice kA x.l.length kc) x.l) := Lib.hid fun w' hx => by
            rw [← HKV.out]
            exact HOK.out.r.ext hx
          by_cases hk2 : x.k = 2
          · as_aux_lemma =>
            have hk2' : (x.k == 2) = true := by rw [hk2]; rfl
            obtain ⟨E, D1, R1, K1, K2⟩ := play_cut H2.out x.n hnm (v := .slice kA x.l.length kc) (v' := .slice kA x.l.length kc) hx3 (fun b off m c e h0 => .inl (HOK.out.b b off m c (HKV.out.trans e) h0)) (fun b off m c e h0 => .inl (HOK.out.b b off m c (HKV.out.trans e) h0))
            have K1 := Lib.hid K1
            have K2 := Lib.hid K2
            have e0 : ∀ (ψ : World → Prop) (e : ExtS (SoW w) wr ψ), e.val.cell? ⟨b, off + k * 517 + 3, none⟩ = some (.int .i64 x.n) := fun ψ e => e.cell x3 hb2 ng
            have e1 : ∀ (ψ : World → Prop) (e : ExtS (SoW w) wr ψ), e.val.cell? ⟨b, off + k * 517 + 4, none⟩ = some (.slice kA x.l.length kc) := fun ψ e => e.cell x4 hb2 ng
            clear x0 x1 x2 x3 x4 LB hk0 hk1 hk2 ng
            go_wp2_with fail
            refine wp_region_piecesS (SoW w) 24 [(true, [0, 1, 2, 3, 4, 5, 6, 7, 8, 9, 10, 12, 13, 14, 15, 16, 17, 18, 19, 20, 21, 22]), (false, [11]), (false, [23])] (by kernel_rfl) (by kernel_rfl) ?_; simp only [pick, List.map_cons, List.map_nil, List.flatMap_cons, List.flatMap_nil, Option.toList_some, List.singleton_append, List.drop_succ_cons, List.drop_zero, List.getElem?_cons_zero, List.getElem?_cons_succ]
            refine ⟨by kernel_rfl, ?_⟩; apply Exists.intro; refine ⟨fun ψ hψ hne => (by (repeat (go_big_quiet_step (( fail )))); exact wpQuiet_nil rfl), ?_⟩
            clear e0 e1
            intro W0 h0 K hK
            have C1 := Lib.hid (K1.out W0 (H2.out.st.ext h0) (KV.out _ (H2.out.st.ext h0).bel))
            clear h0 K1
            go_wp2_with (go_at_call 24; refine C1.out.mono ?_; rintro e w5 ⟨rfl, h5, m5⟩)
            refine hK _ _ m5 ?_
            clear hK K C1 m5
            intro W6 h6 K hK
            have C2 := Lib.hid (K2.out W6 (h5.ext h6) (KV.out _ (h5.ext h6).bel))
            clear h5 h6 K2
            go_wp2_with (go_at_call 42; refine C2.out.mono ?_; rintro e w7 ⟨rfl, h7, m7⟩)
            refine hK _ _ m7 ?_
            clear hK K C2 m7
            intro w8 h8
            have H8 := Lib.hid ((h7.ext h8).mono (k' := k + 1) (by omega))
            clear h7 h8
            go_wp2_with fail
            go_meet
            case rel => exact ⟨by first | rfl | simp, _, _, _, _, rfl, rfl, H8⟩
          have hk2' : (x.k == 2) = false := by rw [beq_eq_false_iff_ne]; exact hk2
          by_cases hk3 : x.k = 3
          · as_aux_lemma =>
            have hk3' : (x.k == 3) = true := by rw [hk3]; rfl
            obtain ⟨E, D1, R1, K1, K2, hd1⟩ := play_fail H2.out (by omega) (v := .slice kA x.l.length kc) (v' := .slice kA x.l.length kc) hx3
            have K1 := Lib.hid (K1 _ H2.out.st (KV.out _ H2.out.st.bel))
            have K2 := Lib.hid K2
            have HDD := Lib.hid hd1
            clear x0 x1 x2 x3 LB hk0 hk1 hk2 hk3 ng hd1
            go_wp2_with fail
            refine K1.out.mono ?_
            rintro e w5 ⟨rfl, h5, -⟩
            have C2 := Lib.hid (K2.out _ h5 (KV.out _ h5.bel))
            have hb5 : b < w5.heap.size := Nat.lt_of_lt_of_le hbw h5.bel.size
            obtain ⟨-, -, -, -, y4, -⟩ := RR.sre (HR.out.ext h5.bel) HX.out HOK.out.bk
            rw [HKV.out] at y4
            clear h5 K1 K2 x4 hb2
            go_wp2_with fail
            refine C2.out.mono ?_
            rintro e w7 ⟨rfl, h7, -⟩
            have H7 := Lib.hid h7
            clear h7 C2 y4 hb5
            have K1 := Lib.hid (boot_o 0 H7.out.st rfl HDD.out)
            have hd2 : R1.dead = true := H7.out.tie.dead.trans HDD.out
            have hRl := H7.out.lim.len
            have K2 := Lib.hid fun w1 gd' (h : OSt w [] [dkOb gd' (newD D1.n D1.on), dkOb gd D1, rfOb gx R1] w1) => rboot_o 2 h rfl hd2 (by omega)
            clear hd2 hRl
            go_wp2_with fail
            refine K1.out.mono ?_
            rintro e w8 ⟨gd', rfl, h8⟩
            have C2 := Lib.hid (K2.out _ _ h8)
            clear h8 K1 K2
            go_wp2_with fail
            refine C2.out.mono ?_
            rintro e w9 ⟨gx', rfl, h9⟩
            have H9 := Lib.hid ((play_boot H7.out HDD.out h9).mono (k' := k + 1) (by omega))
            clear h9 C2
            go_wp2_with fail
            go_meet
            case rel => exact ⟨by first | rfl | simp, _, _, _, _, rfl, rfl, H9⟩
          have hk3' : (x.k == 3) = false := by rw [beq_eq_false_iff_ne]; exact hk3
          as_aux_lemma =>
            obtain ⟨bk, hbk⟩ : ∃ bk, x.bk = bk := ⟨_, rfl⟩
            have h512 := HOK.out.bk
            rw [hbk] at h512 LB
            clear hbk
            have LBB := Lib.hid fun w' (hw' : Mut (SoW w) wr w') => LB w' hw'
            clear LB hk0 hk1 hk2 hk3 x0 x1 x2 x4
            go_wp2_with fail
            generalize wrap64 ((IntKind.u64.wrap x.n).tmod 3) = Z at *
            obtain ⟨E, D1, R1, K1, K2⟩ := play_write H2.out (by omega) Z h512
            have K1 := Lib.hid K1
            have K2 := Lib.hid K2
            clear x3 ng
            refine wp_region_piecesS (SoW w) 16 [(true, [0, 1, 2, 3, 4, 5, 6, 8, 9, 10, 11, 12, 13, 14]), (false, [7]), (false, [15])] (by kernel_rfl) (by kernel_rfl) ?_; simp only [pick, List.map_cons, List.map_nil, List.flatMap_cons, List.flatMap_nil, Option.toList_some, List.singleton_append, List.drop_succ_cons, List.drop_zero, List.getElem?_cons_zero, List.getElem?_cons_succ]
            refine ⟨by kernel_rfl, ?_⟩; apply Exists.intro; refine ⟨fun ψ hψ hne => (by (repeat (first | ( first | (go_big_quiet_want; refine quiet_ld 25 (.tmp 58) rfl (fun w' hw' => LBB.out w' (exts_in hw')) ?_; go_simp; go_big_quiet_on) | (go_big_quiet_want; refine quiet_ld 25 (.tmp 66) rfl (fun w' hw' => LBB.out w' (exts_in hw')) ?_; go_simp; go_big_quiet_on) ) | go_big_quiet_step ((  fail )))); exact wpQuiet_nil rfl), ?_⟩
            clear LBB
            intro W0 h0 K hK
            have C1 := Lib.hid (K1.out W0 (H2.out.st.ext h0))
            clear h0 K1
            go_wp2_with (go_at_call 26; refine C1.out.mono ?_; rintro e w5 ⟨rfl, h5, m5⟩)
            refine hK _ _ m5 ?_
            clear hK K C1 m5
            intro W6 h6 K hK
            have C2 := Lib.hid (K2.out W6 (h5.ext h6))
            clear h5 h6 K2
            go_wp2_with (go_at_call 39; refine C2.out.mono ?_; rintro e w7 ⟨rfl, h7, m7⟩)
            refine hK _ _ m7 ?_
            clear hK K C2 m7
            intro w8 h8
            have H8 := Lib.hid (h7.ext h8)
            clear h7 h8
            go_wp2_with fail
            go_meet
            case rel => exact ⟨by first | rfl | simp, _, _, _, _, rfl, rfl, H8⟩
        case rest => as_aux_lemma =>
          obtain ⟨rfl, gd', gx', D', R', rfl, rfl, HC⟩ := hcut
          obtain ⟨r, E, K1, K2⟩ := play_newest HC.out (by omega)
          have K1 := Lib.hid (K1 _ HC.out.st)
          have K2 := Lib.hid K2
          clear LB H2 x0 x1 x2 x3 x4 HX HOK HKV hb2 hx3 hnm
          go_wp2_with fail
          refine K1.out.mono ?_
          rintro e w4 ⟨rfl, h4⟩
          have ST := Lib.hid (st_rtn r w4)
          have H4 := Lib.hid (h4.ext (extAl w4 (.cells (rtC r) 29)))
          have B1 := Lib.hid (heap_alloc_last w4 (.cells (rtC r) 29))
          clear h4 K1
          go_upto_region 30 with (first | (refine wpList_al rfl 29 rfl alloc_rt ?_; simp only [Act.put]) | (refine wpList_st rfl 29 _ _ rfl ST.out ?_; simp only [Act.put]))
          try simp only [List.setIfInBounds_toArray, List.set_cons_zero, List.set_cons_succ]
          generalize w4.alloc (.cells (rtC r) 29) = V1 at *
          generalize w4.heap.size = g14 at *
          have C2 := Lib.hid (K2.out _ H4.out)
          clear ST K2 H4
          go_wp2_with fail
          refine C2.out.mono ?_
          rintro e w5 ⟨rfl, h5, k5⟩
          have ST := Lib.hid (st_rrtn r w5)
          have H5 : Hid (DpT w [] (k + 1) gd' gx' D' R' (w5.alloc (.cells (rtC r) 23))) := Lib.hid ⟨HC.out.tie, HC.out.lim, HC.out.kd, h5.ext (extAl w5 (.cells (rtC r) 23))⟩
          have b14 := Ext.blk (Ext.trans k5 (extAl w5 (.cells (rtC r) 23))) B1.out
          have b16 := heap_alloc_last w5 (.cells (rtC r) 23)
          have l14 := fun V2 (k : Ext (w5.alloc (.cells (rtC r) 23)) V2) => ld_rt (Ext.blk k b14)
          have l16 := fun V2 (k : Ext (w5.alloc (.cells (rtC r) 23)) V2) => ld_rrt (Ext.blk k b16)
          have L14 := Lib.hid l14
          have L16 := Lib.hid l16
          clear h5 k5 B1 C2 HC b14 b16 l14 l16
          go_upto_region 31 with (first | (refine wpList_al rfl 23 rfl alloc_rrt ?_; simp only [Act.put]) | (refine wpList_st rfl 23 _ _ rfl ST.out ?_; simp only [Act.put]))
          try simp only [List.setIfInBounds_toArray, List.set_cons_zero, List.set_cons_succ]
          generalize w5.alloc (.cells (rtC r) 23) = V2 at *
          generalize w5.heap.size = g16 at *
          obtain ⟨rt, rl⟩ := r
          unfold rtC at L14 L16
          simp only at L14 L16
          have q : eqRo rt rl rt rl = true := by simp [eqRo]
          clear ST
          refine wp_region_pieces 13  [(true, [0, 1, 2, 3, 4, 5, 6, 7, 8, 9, 10, 11, 12])] (by kernel_rfl) (by kernel_rfl) ?_; simp only [pick, List.map_cons, List.map_nil, List.flatMap_cons, List.flatMap_nil, Option.toList_some, List.singleton_append, List.drop_succ_cons, List.drop_zero, List.getElem?_cons_zero, List.getElem?_cons_succ]
          refine ⟨by kernel_rfl, ?_⟩; apply Exists.intro; refine ⟨fun ψ hψ hne => (by (repeat (first | ( first | (go_big_quiet_want; refine quiet_ld 29 (.tmp 14) rfl (fun w' hw' => L14.out w' (ext_in hw')) ?_; go_simp; go_big_quiet_on) | (go_big_quiet_want; refine quiet_ld 23 (.tmp 16) rfl (fun w' hw' => L16.out w' (ext_in hw')) ?_; go_simp; go_big_quiet_on) ) | go_big_quiet_step ((  go_at_call 19; exact extP_of hψ (Nat.le_refl _) (root_any rt rl _) )))); exact wpQuiet_nil rfl), ?_⟩
          intro V3 hV3
          have H6 := Lib.hid (H5.out.ext hV3)
          clear hV3 H5 L14 L16 q
          go_wp2_with fail
          go_roundg (l.length - (k + 1))
          case measure => omega
          case rel => exact ⟨k + 1, gd', gx', D', R', by omega, by omega, by go_num, rfl, rfl, H6⟩
      · obtain rfl : k = l.length := by omega
        go_wp2_with fail
        go_ret
        exact ⟨rfl, H2.out.st.bel⟩
theorem own : ownKnob Try.prog.godebug = none := by kernel_rfl
theorem laidOut : laidOutB Try.prog = true := by kernel_rfl

set_option maxRecDepth 100000 in
theorem lifted (os : Os) (started : os.Started) (H : Type) (enc : TypeId × Value → H) :
    ReturnsInHanded {} Try.checked os 13 .any (Rows.ringPlaysSpec.pre6 enc Try.prog Try.f13 Rows.ringPlaysRow.domain false) (Rows.ringPlaysSpec.post enc Try.prog Try.f13 false true false false) := by
  refine returnsInHanded_of_change_sized (C := Try.checked) own started (by kernel_rfl) Try.func13
    (ChangeSpec.witness6 (enc := enc) (C := Try.checked) false ⟨#[], #[.slice none 0 0], []⟩ 8 (by kernel_rfl) (by kernel_rfl) (by kernel_rfl) (by kernel_rfl)) ?_
  intro W base args ds gs before hval0 hW hcnd hreach0 _
  have hval : ∀ (j : Nat) t v, Try.f13.params[j]? = some t → args[j]? = some v → Value.okWide Try.prog W .any base t v := hval0
  have hW' := hW
  obtain ⟨p, q, hA0, hV, rfl, hfz, hnd⟩ := hW
  have hA : DataW.TrodAll enc Try.prog W 0 (fun _ => true) true Try.f13.params.toList args.toList ds p := hA0
  rw [Try.params13] at hA hval
  have hreach : (DataW.weightsEach Try.prog Try.f13.params.toList ds).all (fun x => decide (x ≤ reachBytes)) = true := by
    have h := List.all_eq_true.1 hreach0
    rw [List.all_eq_true]
    intro k hk
    exact h k (weights_app hk)
  rw [Try.params13] at hreach
  obtain ⟨v0, vs0, d0, ds0, p0, q0, hargs, rfl, rfl, h0, r0⟩ := trodAll_cons hA
  obtain ⟨rfl, rfl, rfl⟩ := trodAll_nil r0
  obtain rfl : args = #[v0] := by cases args; simp_all
  obtain ⟨rfl, rfl⟩ := trodVars_none hV
  have k0 := h0
  have lt0 : ∀ x ∈ p0, x.block < W.heap.size := by obtain ⟨m, hm⟩ := k0; exact DataW.trod_lt m _ _ _ hm
  obtain ⟨x0, rfl, w0⟩ := open_sreQ (hval 0 _ v0 rfl rfl) h0 (fun q hq => of_decide_eq_true (List.all_eq_true.1 hreach _ (weights_in (j := 0) rfl rfl hq)))
  refine (walk (w := W) x0 w0).mono fun e W' ⟨he, bel⟩ => ?_
  subst he
  exact ⟨_, rfl, _, _, _, [], _, [], hW', trodAll_mk1 (shut_bool Try.underlying4 _), (trodAll_cons_mk (Below.trod laidOut (by kernel_rfl) (of_decide_eq_true (by kernel_rfl)) k0 bel lt0) trodAll_mk0), rfl, bel.frame _, fun h => by cases h⟩

theorem proved : Rows.RingPlaysSaid :=
  OpenClaim.holds_of_wide 13 Try.f13 rfl rfl rfl rfl rfl rfl rfl ⟨rfl, rfl, rfl, rfl, rfl⟩ rfl rfl rfl rfl rfl (by kernel_rfl) Try.func13 (by kernel_rfl)
    (of_decide_eq_true (by kernel_rfl)) (by unfold Func.isWrapper; first | (rw [if_pos (by decide +kernel)]; kernel_rfl) | (rw [if_neg (by decide +kernel)]; exact ⟨rfl, rfl⟩))
    (fun os started H enc _ => lifted os started H enc)
end Go.Proofs.Ytobcfocbglkicaa.ringPlays
