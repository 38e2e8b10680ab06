/- Proved: DiskPlays returns true, whatever number of blocks and whatever steps it is called with, and each argument reads behind the call as before. The form's own reach: each slice takes at most 2^47 - 4096 bytes. -/
import Derived.Test.YtobcfocbglkicaaDpC
import Derived.Test.YtobcfocbglkicaaLift
import Derived.Deep.DeepCutAuto
import Derived.Deep.CutBlock
set_option linter.unusedVariables false
set_option maxRecDepth 100000
namespace Go.Proofs.Ytobcfocbglkicaa.diskPlays
open Go.RowKit Go.ChangeShapes Go.WideShapes Go.ChangeAt Go.Deep Go.Proofs.Ytobcfocbglkicaa
attribute [local go_sem ↓] eql_blk neq_blk

theorem wf_le {a : Int} (h : (Lit.int .i64 a).wf = true) : a ≤ 9223372036854775807 := by
  simp [Lit.wf, IntKind.min, IntKind.max, IntKind.signed, IntKind.bits] at h
  omega
theorem wf_u8 {a : Int} (h : (Lit.int .u8 a).wf = true) : ∃ c : UInt8, a = c.toNat := by
  simp [Lit.wf, IntKind.min, IntKind.max, IntKind.signed, IntKind.bits] at h
  exact ⟨UInt8.ofNat a.toNat, by rw [UInt8.toNat_ofNat']; omega⟩
set_option maxHeartbeats 16000000 in
theorem walk {w : World} (n : Int) (hn : (Lit.int .i64 n).wf = true) (x : StsD) (hx : x.Ok w) : Calls Try.prog 8 #[.int .i64 n, x.v] w fun e w' => e = .returned (.bool true) ∧ Below w.heap.size w w' := by
  obtain ⟨v, l⟩ := x
  have hr := hx.r
  have he := hx.e
  have hlen := hx.len
  clear hx hn
  simp only at hr he hlen ⊢
  obtain ⟨A, c, rfl⟩ := hr.form
  have KL := Lib.hid (large07_any l w hr he hlen)
  have HR := Lib.hid hr
  have HE := Lib.hid he
  clear hr he hlen
  go_enter Try.func8, Try.ntmps8
  go_wp2_with fail
  refine KL.out.mono ?_
  rintro e w1 ⟨B, rfl, hB, h1⟩
  cases B with
  | true =>
    have F := Lib.hid h1
    clear hB h1
    go_wp2
    go_ret
    exact ⟨rfl, F.out⟩
  | false =>
    obtain ⟨h100, h3⟩ := hB rfl
    have H3 := Lib.hid h3
    have H1 : Hid (OSt w [] [] w1) := Lib.hid ((OSt.start w).ext h1)
    clear hB h1 h3 KL
    by_cases hb : 64 ≤ n ∧ n ≤ 8192
    case neg =>
      have KN := Lib.hid fun w' => rnew_no n w' hb
      have KD := Lib.hid (nonew_o H1.out n hb)
      clear hb
      go_wp2_with fail
      refine KD.out.mono ?_
      rintro e w2 ⟨rfl, h2⟩
      go_wp2_with fail
      refine (KN.out _).mono ?_
      rintro e w3 ⟨rfl, h3⟩
      have F := Lib.hid (h2.ext h3).bel
      clear h2 h3
      go_wp2_with fail
      go_ret
      exact ⟨rfl, F.out⟩
    obtain ⟨hb0, hb1⟩ := hb
    have KD := Lib.hid (new_o H1.out n hb0 hb1)
    have KN := Lib.hid fun w' (ds : List Ob) (h : OSt w [] ds w') => rnew_o h n hb0 hb1
    clear hb0 hb1
    go_wp2_with fail
    refine KD.out.mono ?_
    rintro e w2 ⟨gd, rfl, h2⟩
    have K2 := Lib.hid (KN.out _ _ h2)
    clear h2 KN KD H1
    go_wp2_with fail
    refine K2.out.mono ?_
    rintro e w3 ⟨gx, rfl, h3⟩
    have HT : Hid (DpT w [] 0 gd gx (newD n []) ⟨n, [], 0, [], false⟩ w3) := Lib.hid ⟨Tie.new n, RF.Lim.new n, by simp [newD], h3.swap⟩
    clear h3 K2
    go_wp2_with fail
    go_loopg [5, 7, 9] l.length (fun gg dv xv s wr => ∃ (k gd gx : Nat) (D : DK) (R : RF), k ≤ l.length ∧ l.length - k ≤ gg ∧ s = .int .i64 k ∧ dv = .pointer (some ⟨gd, 0, none⟩) ∧ xv = .pointer (some ⟨gx, 0, none⟩) ∧ Hid (DpT w [] k gd gx D R wr))
    case atStart => exact ⟨0, gd, gx, _, _, Nat.zero_le _, by omega, rfl, rfl, rfl, HT⟩
    case round =>
      clear HT
      obtain ⟨k, gd, gx, D, R, hk, hg, rfl, rfl, rfl, H⟩ := hrel
      by_cases hlt : k < l.length
      · obtain ⟨b, off, rfl, hbw, hcc, -⟩ := HR.out.at (by omega)
        obtain ⟨x, hx⟩ : ∃ x, l[k]? = some x := ⟨_, List.getElem?_eq_getElem hlt⟩
        have HX := Lib.hid hx
        have hok := HE.out x (List.mem_of_getElem? hx)
        have hx3 := H3.out x (List.mem_of_getElem? hx)
        have hnm := wf_le hok.n
        obtain ⟨c8, hc8⟩ := wf_u8 hok.c
        obtain ⟨kA, kc, hkv⟩ := hok.r.form
        have ho := alloc_row0 wr 4 wr.heap.size 1 One (Nat.le_refl _)
        have hbo := hok.r.ext (Ext.trans H.out.st.bel (extAl wr (.cells #[] 4)))
        rw [hkv] at hbo
        obtain ⟨v', w2, hr, ho2, hbel⟩ := app_bool (tx := 39) (ty := 39) ho (hbo.src Try.underlying39) (by simp) (bcs_one x.l) (by omega)
        simp only [Nat.zero_add, List.nil_append] at ho2
        have hb2 : Ext wr w2 := Below.trans (extAl wr _) hbel
        obtain ⟨loc, hkl, hst⟩ := keepL_new H.out.st hb2 ho2
        obtain ⟨vA, vc, rfl⟩ := hkl.form
        have H2 : Hid (DpT w loc k gd gx D R w2) := Lib.hid ⟨H.out.tie, H.out.lim, H.out.kd, hst⟩
        have HK := Lib.hid hkl
        have Hr := Lib.hid hr
        have HOK := Lib.hid hok
        have HKV := Lib.hid hkv
        have HC8 := Lib.hid hc8
        obtain ⟨-, -, -, x3⟩ := RR.std (HR.out.ext H.out.st.bel) hx
        rw [hkv] at x3
        have hbr : b < wr.heap.size := Nat.lt_of_lt_of_le hbw H.out.st.bel.size
        clear hx hok hkv hc8 ho hbo hr ho2 hbel hkl hst
        go_upto_region 14 with (at_builtin; refine wpList_app rfl (.tmp 52) (.tmp 57) 39 39 rfl Hr.out ?_; simp only [Act.put])
        clear Hr hb2 x3 H hbr
        have hb2 : b < w2.heap.size := Nat.lt_of_lt_of_le hbw H2.out.st.bel.size
        obtain ⟨x0, x1, x2, x3⟩ := RR.std (HR.out.ext H2.out.st.bel) HX.out
        rw [HKV.out] at x3
        go_upto_block 2 with fail
        go_cut [5, 7, 10] (fun dv xv ok wx => ok = .bool true ∧ ∃ (gd' gx' : Nat) (D' : DK) (R' : RF), dv = .pointer (some ⟨gd', 0, none⟩) ∧ xv = .pointer (some ⟨gx', 0, none⟩) ∧ Hid (DpT w loc (k + 1) gd' gx' D' R' wx))
        case first => as_aux_lemma =>
          by_cases hk0 : x.k = 0
          · as_aux_lemma =>
            have hk0' : (x.k == 0) = true := by rw [hk0]; rfl
            obtain ⟨BB, hB, KBK⟩ : ∃ B : List UInt8, B.length = 512 ∧ Hid (∀ w', Calls Try.prog 27 #[.int .u8 x.c] w' fun e w'' => e = .returned (.agg (bvs B).toArray) ∧ Ext w' w'') := ⟨_, blkC_length c8, Lib.hid fun w' => block_any c8 x.c HC8.out w'⟩
            obtain ⟨E, D1, R1, K1, K2⟩ := play_write H2.out (by omega) x.n hB
            have K1 := Lib.hid K1
            have K2 := Lib.hid K2
            have ng : ¬ SoW w b := by unfold SoW; omega
            have e0 : ∀ (ψ : World → Prop) (e : ExtS (SoW w) w2 ψ), e.val.cell? ⟨b, off + k * 4 + 1, none⟩ = some (.int .i64 x.n) := fun ψ e => e.cell x1 hb2 ng
            have e1 : ∀ (ψ : World → Prop) (e : ExtS (SoW w) w2 ψ), e.val.cell? ⟨b, off + k * 4 + 2, none⟩ = some (.int .u8 x.c) := fun ψ e => e.cell x2 hb2 ng
            clear x0 x1 x2 x3 hk0 ng
            go_wp2_with fail
            refine wp_region_piecesS (SoW w) 26 [(true, [0, 1, 2, 3, 4, 5, 6, 7, 8, 9, 10, 11, 13, 14, 15, 16, 17, 18, 19, 20, 21, 22, 23]), (false, [12]), (true, [24]), (false, [25])] (by kernel_rfl) (by kernel_rfl) ?_; simp only [pick, List.map_cons, List.map_nil, List.flatMap_cons, List.flatMap_nil, Option.toList_some, List.singleton_append, List.drop_succ_cons, List.drop_zero, List.getElem?_cons_zero, List.getElem?_cons_succ]
            refine ⟨by kernel_rfl, ?_⟩; apply Exists.intro; refine ⟨fun ψ hψ hne => (by (repeat (first | ( fail ) | go_big_quiet_step ((  go_at_call 27; exact extS_of hψ (KBK.out _) )))); exact wpQuiet_nil rfl), ?_⟩
            clear e0 e1
            intro W0 h0 K hK
            have C1 := Lib.hid (K1.out W0 (H2.out.st.ext h0))
            clear h0 K1
            go_wp2_with (go_at_call 26; refine C1.out.mono ?_; rintro e w5 ⟨rfl, h5, m5⟩)
            refine hK _ _ m5 ?_
            clear hK K C1 m5
            refine ⟨by kernel_rfl, ?_⟩; apply Exists.intro; refine ⟨fun ψ hψ hne => (by (repeat (first | ( fail ) | go_big_quiet_step ((  go_at_call 27; exact extS_of hψ (KBK.out _) )))); exact wpQuiet_nil rfl), ?_⟩
            intro W6 h6 K hK
            have C2 := Lib.hid (K2.out W6 (h5.ext h6))
            clear h5 h6 K2
            go_wp2_with (go_at_call 39; refine C2.out.mono ?_; rintro e w7 ⟨rfl, h7, m7⟩)
            refine hK _ _ m7 ?_
            clear hK K C2 m7
            intro w8 h8
            have H8 := Lib.hid (h7.ext h8)
            clear h7 h8
            go_wp2_with fail
            go_meet
            case rel => exact ⟨by first | rfl | simp, _, _, _, _, rfl, rfl, H8⟩
          have hk0' : (x.k == 0) = false := by rw [beq_eq_false_iff_ne]; exact hk0
          by_cases hk1 : x.k = 1
          · as_aux_lemma =>
            have hk1' : (x.k == 1) = true := by rw [hk1]; rfl
            have hok := H2.out.st.dok (i := 0) rfl
            have lB := (hok.read x.n).1
            have hrd := H2.out.tie.read x.n
            have hwl := H2.out.wtl
            have hRl := H2.out.lim.len
            obtain ⟨Q, hQ⟩ : ∃ Q, Q = D.read x.n := ⟨_, rfl⟩
            rw [← hQ] at lB hrd
            obtain ⟨B, E⟩ := Q
            simp only at lB
            have HD := Lib.hid hQ.symm
            have HRR := Lib.hid hrd
            have K1 := Lib.hid (read_oe 0 H2.out.st rfl x.n B E HD.out (by omega))
            have K2 := Lib.hid fun w1 (h : OSt w loc [dkOb gd D, rfOb gx R] w1) => rread_oe 1 h rfl x.n B E HRR.out (by omega)
            clear hQ hrd hok hwl hRl HD HRR hk0 hk1
            go_wp2_with fail
            refine K1.out.mono ?_
            rintro e w4 ⟨rfl, h4, k4⟩
            have ST := Lib.hid (st_blkn B lB w4)
            have H4 := Lib.hid (h4.ext (extAl w4 (.cells (bvs B).toArray 25)))
            have B1 := Lib.hid (heap_alloc_last w4 (.cells (bvs B).toArray 25))
            clear h4 k4 x0 x1 x2 x3 K1
            go_upto_region 24 with (first | (refine wpList_al rfl 25 rfl alloc_blk ?_; simp only [Act.put]) | (refine wpList_st rfl 25 _ _ rfl ST.out ?_; simp only [Act.put]))
            try simp only [List.setIfInBounds_toArray, List.set_cons_zero, List.set_cons_succ]
            generalize w4.alloc (.cells (bvs B).toArray 25) = V1 at *
            generalize w4.heap.size = g12 at *
            clear ST
            obtain ⟨-, x1, -, -⟩ := RR.std (HR.out.ext H4.out.bel) HX.out
            have hb4 : b < V1.heap.size := Nat.lt_of_lt_of_le hbw H4.out.bel.size
            have K2' := Lib.hid (K2.out _ H4.out)
            clear K2
            go_wp2_with fail
            refine K2'.out.mono ?_
            rintro e w5 ⟨rfl, h5, k5⟩
            have ST := Lib.hid (st_blkn B lB w5)
            have L1 := Lib.hid (ld_blk (Ext.blk (Ext.trans k5 (extAl w5 (.cells (bvs B).toArray 25))) B1.out) lB)
            have L2 := Lib.hid (ld_blk (heap_alloc_last w5 (.cells (bvs B).toArray 25)) lB)
            have H5 : Hid (DpT w loc (k + 1) gd gx D R (w5.alloc (.cells (bvs B).toArray 25))) := Lib.hid ⟨H2.out.tie, H2.out.lim.mono (by omega), H2.out.kd, h5.ext (extAl w5 (.cells (bvs B).toArray 25))⟩
            clear h5 k5 x1 H4 B1 K2' hb4
            go_upto_region 25 with (first | (refine wpList_al rfl 25 rfl alloc_blk ?_; simp only [Act.put]) | (refine wpList_st rfl 25 _ _ rfl ST.out ?_; simp only [Act.put]))
            try simp only [List.setIfInBounds_toArray, List.set_cons_zero, List.set_cons_succ]
            generalize w5.alloc (.cells (bvs B).toArray 25) = V2 at *
            generalize w5.heap.size = g14 at *
            have q : eqB B B = true := by simp [eqB]
            clear ST
            go_wp2_with (first | (refine wpList_ld rfl 25 (.tmp 12) rfl L1.out ?_; simp only [Act.put]) | (refine wpList_ld rfl 25 (.tmp 14) rfl L2.out ?_; simp only [Act.put]))
            go_meet
            case rel => exact ⟨by first | rfl | simp, _, _, _, _, rfl, rfl, H5⟩
          have hk1' : (x.k == 1) = false := by rw [beq_eq_false_iff_ne]; exact hk1
          by_cases hk2 : x.k = 2
          · as_aux_lemma =>
            have hk2' : (x.k == 2) = true := by rw [hk2]; rfl
            obtain ⟨E, D1, R1, K1, K2⟩ := play_flush H2.out (by omega)
            have K1 := Lib.hid (K1 _ H2.out.st)
            have K2 := Lib.hid K2
            clear x0 x1 x2 x3 hk0 hk1 hk2
            go_wp2_with fail
            refine K1.out.mono ?_
            rintro e w5 ⟨rfl, h5⟩
            have C2 := Lib.hid (K2.out _ h5)
            clear h5 K1 K2
            go_wp2_with fail
            refine C2.out.mono ?_
            rintro e w7 ⟨rfl, h7⟩
            have H8 := Lib.hid (h7.mono (k' := k + 1) (by omega))
            clear h7 C2
            go_wp2_with fail
            go_meet
            case rel => exact ⟨by first | rfl | simp, _, _, _, _, rfl, rfl, H8⟩
          have hk2' : (x.k == 2) = false := by rw [beq_eq_false_iff_ne]; exact hk2
          have KV : Hid (∀ w', Ext w w' → RBo w' (.slice kA x.l.length kc) x.l) := Lib.hid fun w' hx => by
            rw [← HKV.out]
            exact HOK.out.r.ext hx
          by_cases hk3 : x.k = 3
          · as_aux_lemma =>
            have hk3' : (x.k == 3) = true := by rw [hk3]; rfl
            obtain ⟨E, D1, R1, K1, K2⟩ := play_cut H2.out x.n hnm (v := .slice vA x.l.length vc) (v' := .slice kA x.l.length kc) hx3 (fun b off m c e _ => HK.out.hv b off m c e) (fun b off m c e h0 => .inl (HOK.out.b b off m c (HKV.out.trans e) h0))
            have K1 := Lib.hid K1
            have K2 := Lib.hid K2
            have ng : ¬ SoW w b := by unfold SoW; omega
            have e0 : ∀ (ψ : World → Prop) (e : ExtS (SoW w) w2 ψ), e.val.cell? ⟨b, off + k * 4 + 1, none⟩ = some (.int .i64 x.n) := fun ψ e => e.cell x1 hb2 ng
            have e1 : ∀ (ψ : World → Prop) (e : ExtS (SoW w) w2 ψ), e.val.cell? ⟨b, off + k * 4 + 3, none⟩ = some (.slice kA x.l.length kc) := fun ψ e => e.cell x3 hb2 ng
            clear x0 x1 x2 x3 hk0 hk1 hk2 hk3 ng
            go_wp2_with fail
            refine wp_region_piecesS (SoW w) 20 [(true, [0, 1, 2, 3, 4, 5, 6, 8, 9, 10, 11, 12, 13, 14, 15, 16, 17, 18]), (false, [7]), (false, [19])] (by kernel_rfl) (by kernel_rfl) ?_; simp only [pick, List.map_cons, List.map_nil, List.flatMap_cons, List.flatMap_nil, Option.toList_some, List.singleton_append, List.drop_succ_cons, List.drop_zero, List.getElem?_cons_zero, List.getElem?_cons_succ]
            refine ⟨by kernel_rfl, ?_⟩; apply Exists.intro; refine ⟨fun ψ hψ hne => (by (repeat (go_big_quiet_step (( fail )))); exact wpQuiet_nil rfl), ?_⟩
            clear e0 e1
            intro W0 h0 K hK
            have C1 := Lib.hid (K1.out W0 (H2.out.st.ext h0) (HK.out.rbo (H2.out.st.ext h0)))
            clear h0 K1
            go_wp2_with (go_at_call 24; refine C1.out.mono ?_; rintro e w5 ⟨rfl, h5, m5⟩)
            refine hK _ _ m5 ?_
            clear hK K C1 m5
            intro W6 h6 K hK
            have C2 := Lib.hid (K2.out W6 (h5.ext h6) (KV.out _ (h5.ext h6).bel))
            clear h5 h6 K2
            go_wp2_with (go_at_call 42; refine C2.out.mono ?_; rintro e w7 ⟨rfl, h7, m7⟩)
            refine hK _ _ m7 ?_
            clear hK K C2 m7
            intro w8 h8
            have H8 := Lib.hid ((h7.ext h8).mono (k' := k + 1) (by omega))
            clear h7 h8
            go_wp2_with fail
            go_meet
            case rel => exact ⟨by first | rfl | simp, _, _, _, _, rfl, rfl, H8⟩
          have hk3' : (x.k == 3) = false := by rw [beq_eq_false_iff_ne]; exact hk3
          by_cases hk4 : x.k = 4
          · as_aux_lemma =>
            have hk4' : (x.k == 4) = true := by rw [hk4]; rfl
            obtain ⟨E, D1, R1, K1, K2, -⟩ := play_fail H2.out (by omega) (v := .slice vA x.l.length vc) (v' := .slice kA x.l.length kc) hx3
            have K1 := Lib.hid K1
            have K2 := Lib.hid K2
            have ng : ¬ SoW w b := by unfold SoW; omega
            have e1 : ∀ (ψ : World → Prop) (e : ExtS (SoW w) w2 ψ), e.val.cell? ⟨b, off + k * 4 + 3, none⟩ = some (.slice kA x.l.length kc) := fun ψ e => e.cell x3 hb2 ng
            clear x0 x1 x2 x3 hk0 hk1 hk2 hk3 hk4 ng
            go_wp2_with fail
            refine wp_region_piecesS (SoW w) 10 [(true, [0, 1, 3, 4, 5, 6, 7, 8]), (false, [2]), (false, [9])] (by kernel_rfl) (by kernel_rfl) ?_; simp only [pick, List.map_cons, List.map_nil, List.flatMap_cons, List.flatMap_nil, Option.toList_some, List.singleton_append, List.drop_succ_cons, List.drop_zero, List.getElem?_cons_zero, List.getElem?_cons_succ]
            refine ⟨by kernel_rfl, ?_⟩; apply Exists.intro; refine ⟨fun ψ hψ hne => (by (repeat (go_big_quiet_step (( fail )))); exact wpQuiet_nil rfl), ?_⟩
            clear e1
            intro W0 h0 K hK
            have C1 := Lib.hid (K1.out W0 (H2.out.st.ext h0) (HK.out.rbo (H2.out.st.ext h0)))
            clear h0 K1
            go_wp2_with (go_at_call 28; refine C1.out.mono ?_; rintro e w5 ⟨rfl, h5, m5⟩)
            refine hK _ _ m5 ?_
            clear hK K C1 m5
            intro W6 h6 K hK
            have C2 := Lib.hid (K2.out W6 (h5.ext h6) (KV.out _ (h5.ext h6).bel))
            clear h5 h6 K2
            go_wp2_with (go_at_call 43; refine C2.out.mono ?_; rintro e w7 ⟨rfl, h7, m7⟩)
            refine hK _ _ m7 ?_
            clear hK K C2 m7
            intro w8 h8
            have H8 := Lib.hid ((h7.ext h8).mono (k' := k + 1) (by omega))
            clear h7 h8
            go_wp2_with fail
            go_meet
            case rel => exact ⟨by first | rfl | simp, _, _, _, _, rfl, rfl, H8⟩
          have hk4' : (x.k == 4) = false := by rw [beq_eq_false_iff_ne]; exact hk4
          by_cases hk5 : x.k = 5
          · as_aux_lemma =>
            have hk5' : (x.k == 5) = true := by rw [hk5]; rfl
            clear x0 x1 x2 x3 hk0 hk1 hk2 hk3 hk4 hk5
            cases hd : D.dead with
            | false =>
              have K1 := Lib.hid (noboot_o 0 H2.out.st rfl hd)
              have hd2 : R.dead = false := H2.out.tie.dead.trans hd
              have K2 := Lib.hid fun w1 (h : OSt w loc [dkOb gd D, rfOb gx R] w1) => rnoboot_o 1 h rfl hd2
              clear hd hd2
              go_wp2_with fail
              refine K1.out.mono ?_
              rintro e w5 ⟨rfl, h5⟩
              have C2 := Lib.hid (K2.out _ h5)
              clear h5 K1 K2
              go_wp2_with fail
              refine C2.out.mono ?_
              rintro e w7 ⟨rfl, h7⟩
              have H8 : Hid (DpT w loc (k + 1) gd gx D R w7) := Lib.hid ⟨H2.out.tie, H2.out.lim.mono (by omega), H2.out.kd, h7⟩
              clear h7 C2
              go_wp2_with fail
              go_meet
              case rel => exact ⟨by first | rfl | simp, _, _, _, _, rfl, rfl, H8⟩
            | true =>
              have K1 := Lib.hid (boot_o 0 H2.out.st rfl hd)
              have hd2 : R.dead = true := H2.out.tie.dead.trans hd
              have hRl := H2.out.lim.len
              have K2 := Lib.hid fun w1 gd' (h : OSt w loc [dkOb gd' (newD D.n D.on), dkOb gd D, rfOb gx R] w1) => rboot_o 2 h rfl hd2 (by omega)
              have HDD := Lib.hid hd
              clear hd hd2 hRl
              go_wp2_with fail
              refine K1.out.mono ?_
              rintro e w5 ⟨gd', rfl, h5⟩
              have C2 := Lib.hid (K2.out _ _ h5)
              clear h5 K1 K2
              go_wp2_with fail
              refine C2.out.mono ?_
              rintro e w7 ⟨gx', rfl, h7⟩
              have KDD := Lib.hid (dead_o 2 h7 rfl)
              rw [HDD.out] at KDD
              clear h7 C2
              go_wp2_with fail
              refine KDD.out.mono ?_
              rintro e w8 ⟨rfl, h8⟩
              have KS := Lib.hid (same_o h8.dropD.dropD H2.out.tie H2.out.lim (by omega) l HR.out h100)
              have H8 := Lib.hid h8
              clear h8 KDD
              go_wp2_with fail
              refine KS.out.mono ?_
              rintro e w9 ⟨rfl, -, x9⟩
              have H9 := Lib.hid ((play_boot H2.out HDD.out (H8.out.ext x9)).mono (k' := k + 1) (by omega))
              clear x9 H8 KS
              go_wp2_with fail
              go_meet
              case rel => exact ⟨by first | rfl | simp, _, _, _, _, rfl, rfl, H9⟩
          have hk5' : (x.k == 5) = false := by rw [beq_eq_false_iff_ne]; exact hk5
          as_aux_lemma =>
            have hkd := H2.out.kd
            have hwl := H2.out.wtl
            have qa1 := DK.wwrite hwl 0 (blkC 9)
            have qb1 := DK.kwrite hkd 0 (blkC 9)
            have K1 := Lib.hid (copy_o 0 H2.out.st rfl (by omega) (by omega))
            have K2 := Lib.hid fun w1 gc (h : OSt w loc [dkOb gc D, dkOb gd D, rfOb gx R] w1) => write_o 1 h rfl 0 (blkC_length 9) (by omega) (by omega)
            generalize (D.write 0 (blkC 9)).1 = D1 at *
            generalize (D.write 0 (blkC 9)).2 = E1 at *
            have qa2 := DK.wflush qa1
            have qb2 := DK.kflush qb1
            have K3 := Lib.hid fun w1 gc (h : OSt w loc [dkOb gc D, dkOb gd D1, rfOb gx R] w1) => flush_o 1 h rfl (by omega) (by omega)
            generalize D1.flush.1 = D2 at *
            generalize D1.flush.2 = E2 at *
            have K4 := Lib.hid fun w1 gc (h : OSt w loc [dkOb gc D, dkOb gd D2, rfOb gx R] w1) => fail_o 1 h rfl (vk := .slice none 0 0) [] (.inl ⟨none, 0, rfl, rfl⟩) (by simp) (by omega)
            generalize (D2.Fail []).1 = D3 at *
            generalize (D2.Fail []).2 = E3 at *
            have KBK := Lib.hid fun w' => block_any 9 9 rfl w'
            generalize blkC 9 = BB at *
            clear hkd hwl qa1 qb1 qa2 qb2 x0 x1 x2 x3 hk0 hk1 hk2 hk3 hk4 hk5
            go_wp2_with fail
            refine K1.out.mono ?_
            rintro e w5 ⟨gc, rfl, h5⟩
            have H5 := Lib.hid h5
            clear h5 K1
            go_wp2_with fail
            refine (KBK.out _).mono ?_
            rintro e w6 ⟨rfl, x6⟩
            have C2 := Lib.hid (K2.out _ _ (H5.out.ext x6))
            clear H5 x6 K2
            go_wp2_with fail
            refine C2.out.mono ?_
            rintro e w7 ⟨rfl, h7⟩
            have C3 := Lib.hid (K3.out _ _ h7)
            clear h7 C2 K3
            go_wp2_with fail
            refine C3.out.mono ?_
            rintro e w8 ⟨rfl, h8⟩
            have C4 := Lib.hid (K4.out _ _ h8)
            clear h8 C3 K4
            go_wp2_with fail
            refine C4.out.mono ?_
            rintro e w9 ⟨rfl, h9⟩
            have H9 : Hid (DpT w loc (k + 1) gc gx D R w9) := Lib.hid ⟨H2.out.tie, H2.out.lim.mono (by omega), H2.out.kd, OSt.swap1 h9⟩
            clear h9 C4
            go_wp2_with fail
            go_meet
            case rel => exact ⟨by first | rfl | simp, _, _, _, _, rfl, rfl, H9⟩
        case rest => as_aux_lemma =>
          obtain ⟨rfl, gd', gx', D', R', rfl, rfl, HC⟩ := hcut
          have KS := Lib.hid fun loc' w' (h : OSt w loc' [dkOb gd' D', rfOb gx' R'] w') => same_o h HC.out.tie HC.out.lim (by omega) l HR.out h100
          have HTL := Lib.hid (And.intro HC.out.tie (And.intro HC.out.lim HC.out.kd))
          have HS : Hid (OSt w loc [dkOb gd' D', rfOb gx' R'] wc) := Lib.hid HC.out.st
          clear HC H2 x0 x1 x2 x3 HX HOK HC8 HKV hb2
          go_wp2_with fail
          obtain ⟨wo, rfl⟩ : ∃ wo : World, wo = wr := ⟨_, rfl⟩
          obtain ⟨gko, rfl⟩ : ∃ g : Nat, g = gk := ⟨_, rfl⟩
          generalize hnk : x.l.length = nk at *
          have HNK := Lib.hid hnk
          clear hnk hnm
          go_loopg [21] nk (fun gg s wx => ∃ (m : Nat) (kp : List Bool) (loc' : List (Nat × Obj)), m ≤ nk ∧ nk - m ≤ gg ∧ s = .int .i64 m ∧ Hid (kp.length = nk) ∧ Hid (KeepL loc' (.slice vA nk vc) kp) ∧ Hid (OSt w loc' [dkOb gd' D', rfOb gx' R'] wx))
          case atStart => exact ⟨0, x.l, loc, Nat.zero_le _, by omega, rfl, HNK, HK, HS⟩
          case round =>
            clear HS HK
            obtain ⟨m, kp, loc', hm, hg2, rfl, hkp, HK', HS'⟩ := hrel
            by_cases hlt2 : m < nk
            · obtain ⟨b2, rfl, hnc, cb, fb, lb, hset⟩ := HK'.out.set HS'.out (j := m) (by rw [hkp.out]; exact hlt2)
              obtain ⟨bv0, hbv⟩ : ∃ v, kp[m]'(by rw [hkp.out]; exact hlt2) = v := ⟨_, rfl⟩
              rw [hbv] at cb
              obtain ⟨loc2, hk2, hs2⟩ := hset (!bv0)
              have HK2 := Lib.hid hk2
              have HS2 := Lib.hid hs2
              clear hset hk2 hs2 hbv
              go_wp2_with fail
              go_roundg (nk - (m + 1))
              case measure => omega
              case rel => exact ⟨m + 1, kp.set m (!bv0), loc2, by omega, by omega, by go_num, Lib.hid (by rw [List.length_set]; exact hkp.out), HK2, HS2⟩
            · obtain rfl : m = nk := by omega
              have KS' := Lib.hid (KS.out _ _ HS'.out)
              clear KS
              go_wp2_with fail
              refine KS'.out.mono ?_
              rintro e w9 ⟨rfl, h9, -⟩
              have H9 : Hid (DpT w [] (k + 1) gd' gx' D' R' w9) := Lib.hid ⟨HTL.out.1, HTL.out.2.1, HTL.out.2.2, HK'.out.drop h9⟩
              clear h9 KS' HTL HK' HS'
              go_wp2_with fail
              go_roundg (l.length - (k + 1))
              case measure => omega
              case rel => exact ⟨k + 1, gd', gx', D', R', by omega, by omega, by go_num, rfl, rfl, H9⟩
      · obtain rfl : k = l.length := by omega
        go_wp2_with fail
        go_ret
        exact ⟨rfl, H.out.st.bel⟩
theorem own : ownKnob Try.prog.godebug = none := by kernel_rfl
theorem laidOut : laidOutB Try.prog = true := by kernel_rfl

set_option maxRecDepth 100000 in
theorem lifted (os : Os) (started : os.Started) (H : Type) (enc : TypeId × Value → H) :
    ReturnsInHanded {} Try.checked os 8 .any (Rows.diskPlaysSpec.pre6 enc Try.prog Try.f8 Rows.diskPlaysRow.domain false) (Rows.diskPlaysSpec.post enc Try.prog Try.f8 false true false false) := by
  refine returnsInHanded_of_change_sized (C := Try.checked) own started (by kernel_rfl) Try.func8
    (ChangeSpec.witness6 (enc := enc) (C := Try.checked) false ⟨#[], #[.int .i64 0, .slice none 0 0], []⟩ 8 (by kernel_rfl) (by kernel_rfl) (by kernel_rfl) (by kernel_rfl)) ?_
  intro W base args ds gs before hval0 hW hcnd hreach0 _
  have hval : ∀ (j : Nat) t v, Try.f8.params[j]? = some t → args[j]? = some v → Value.okWide Try.prog W .any base t v := hval0
  have hW' := hW
  obtain ⟨p, q, hA0, hV, rfl, hfz, hnd⟩ := hW
  have hA : DataW.TrodAll enc Try.prog W 0 (fun _ => true) true Try.f8.params.toList args.toList ds p := hA0
  rw [Try.params8] at hA hval
  have hreach : (DataW.weightsEach Try.prog Try.f8.params.toList ds).all (fun x => decide (x ≤ reachBytes)) = true := by
    have h := List.all_eq_true.1 hreach0
    rw [List.all_eq_true]
    intro k hk
    exact h k (weights_app hk)
  rw [Try.params8] at hreach
  obtain ⟨v0, vs0, d0, ds0, p0, q0, hargs, rfl, rfl, h0, r0⟩ := trodAll_cons hA
  obtain ⟨v1, vs1, d1, ds1, p1, q1, rfl, rfl, rfl, h1, r1⟩ := trodAll_cons r0
  obtain ⟨rfl, rfl, rfl⟩ := trodAll_nil r1
  obtain rfl : args = #[v0, v1] := by cases args; simp_all
  obtain ⟨rfl, rfl⟩ := trodVars_none hV
  have k0 := h0
  have lt0 : ∀ x ∈ p0, x.block < W.heap.size := by obtain ⟨m, hm⟩ := k0; exact DataW.trod_lt m _ _ _ hm
  have k1 := h1
  have lt1 : ∀ x ∈ p1, x.block < W.heap.size := by obtain ⟨m, hm⟩ := k1; exact DataW.trod_lt m _ _ _ hm
  obtain ⟨a0, rfl, -, -, wa0⟩ := open_int Try.underlying3 (hval 0 _ v0 rfl rfl) h0
  obtain ⟨x1, rfl, w1⟩ := open_stdQ (hval 1 _ v1 rfl rfl) h1 (fun q hq => of_decide_eq_true (List.all_eq_true.1 hreach _ (weights_in (j := 1) rfl rfl hq)))
  refine (walk (w := W) a0 wa0 x1 w1).mono fun e W' ⟨he, bel⟩ => ?_
  subst he
  exact ⟨_, rfl, _, _, _, [], _, [], hW', trodAll_mk1 (shut_bool Try.underlying4 _), (trodAll_cons_mk (Below.trod laidOut (by kernel_rfl) (of_decide_eq_true (by kernel_rfl)) k0 bel lt0) (trodAll_cons_mk (Below.trod laidOut (by kernel_rfl) (of_decide_eq_true (by kernel_rfl)) k1 bel lt1) trodAll_mk0)), rfl, bel.frame _, fun h => by cases h⟩

theorem proved : Rows.DiskPlaysSaid :=
  OpenClaim.holds_of_wide 8 Try.f8 rfl rfl rfl rfl rfl rfl rfl ⟨rfl, rfl, rfl, rfl, rfl⟩ rfl rfl rfl rfl rfl (by kernel_rfl) Try.func8 (by kernel_rfl)
    (of_decide_eq_true (by kernel_rfl)) (by unfold Func.isWrapper; first | (rw [if_pos (by decide +kernel)]; kernel_rfl) | (rw [if_neg (by decide +kernel)]; exact ⟨rfl, rfl⟩))
    (fun os started H enc _ => lifted os started H enc)
end Go.Proofs.Ytobcfocbglkicaa.diskPlays
