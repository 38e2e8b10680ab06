/- Proved: LocksFair returns true, whatever it is handed. -/
import Derived.Test.YtiihlbaajopllaaLfA
import Derived.Test.YtiihlbaajopllaaLift
import Derived.Deep.DeepCutAuto
set_option linter.unusedVariables false
set_option maxRecDepth 100000
namespace Go.Proofs.Ytiihlbaajopllaa.locksFair
open Go.RowKit Go.ChangeShapes Go.WideShapes Go.ChangeAt Go.Deep Go.Proofs.Ytiihlbaajopllaa

theorem i64_wf {a : Int} (h : (Lit.int .i64 a).wf = true) : -9223372036854775808 ≤ a ∧ a ≤ 9223372036854775807 := by
  simp [Lit.wf, IntKind.min, IntKind.max, IntKind.signed, IntKind.bits] at h
  omega
set_option maxHeartbeats 16000000 in
theorem walk {w : World} (x : OpsT) (hx : x.Ok w) : Calls Try.prog 3 #[x.v] w fun e w' => e = .returned (.bool true) ∧ Below w.heap.size w w' := by
  obtain ⟨v, l⟩ := x
  have hr := hx.r
  have he := hx.e
  have hlen := hx.len
  clear hx
  simp only at hr he hlen ⊢
  obtain ⟨A, c, rfl⟩ := hr.form
  have KL := Lib.hid (long_any l w hr he hlen)
  have HR := Lib.hid hr
  have HE := Lib.hid he
  have hlm := hlen
  unfold maxLen at hlm
  clear hr he hlen
  cases hlg : longB l with
  | true =>
    rw [hlg] at KL
    clear hlg
    go_enter Try.func3, Try.ntmps3
    go_wp2_with fail
    refine KL.out.mono ?_
    rintro e w1 ⟨rfl, h1⟩
    go_wp2_with fail
    refine (awake_any w1).mono ?_
    rintro e w2 ⟨rfl, h2⟩
    have F := Lib.hid (Ext.trans h1 h2)
    clear h1 h2
    go_wp2
    go_ret
    exact ⟨rfl, F.out⟩
  | false =>
    rw [hlg] at KL
    obtain ⟨h80, h50⟩ := longB_le hlg
    have H50 := Lib.hid h50
    clear hlg h50
    go_enter Try.func3, Try.ntmps3
    go_wp2_with fail
    refine KL.out.mono ?_
    rintro e w1 ⟨rfl, h1⟩
    go_wp2_with fail
    refine (awake_any w1).mono ?_
    rintro e w2 ⟨rfl, h2⟩
    have H1 : Hid (OSt (Z := Zf) w [] w2) := Lib.hid ((OSt.start w).ext (Ext.trans h1 h2))
    clear h1 h2 KL
    go_wp2_with fail
    refine (newO H1.out).mono ?_
    rintro e w3 ⟨g, rfl, h3⟩
    have H3 : Hid (OSt w [sdOb (.slice none 0 0) 0 [], lkOb g []] w3) := Lib.hid (h3.ownNil 38 (by decide) 3)
    clear h3 H1
    go_wp2
    go_loopg [4, 5] l.length (fun gg u s wr => ∃ (k : Nat) (L : List Tk) (R : List Sd), k ≤ l.length ∧ l.length - k ≤ gg ∧ s = .int .i64 k ∧ R.length ≤ k ∧ Hid (OSt w [sdOb u R.length R, lkOb g L] wr) ∧ Hid (SIn L R) ∧ Hid (∀ s ∈ R, RWn w s.v s.l ∧ s.l.length ≤ 50))
    case atStart => exact ⟨0, [], [], Nat.zero_le _, by omega, rfl, Nat.le_refl _, H3, Lib.hid ⟨rfl, by simp, by simp⟩, Lib.hid (by simp)⟩
    case round =>
      obtain ⟨k, L, R, hk, hg, rfl, hRk, H, HI, HRL⟩ := hrel
      obtain ⟨Ao, co, rfl⟩ := (H.out.own 0 rfl).form
      by_cases hlt : k < l.length
      · obtain ⟨b, off, rfl, hba, hca, -⟩ := (HR.out.ext H.out.bel).at (by omega)
        obtain ⟨x, hx⟩ : ∃ x, l[k]? = some x := ⟨_, List.getElem?_eq_getElem hlt⟩
        have hok := HE.out x (List.mem_of_getElem? hx)
        have hx50 := H50.out x (List.mem_of_getElem? hx)
        obtain ⟨Av, cw, hwv⟩ := hok.r.form
        obtain ⟨x0, x1, x4⟩ := ROp.op (HR.out.ext H.out.bel) hx
        rw [hwv] at x4
        obtain ⟨t0, t1⟩ := i64_wf hok.t
        have hrw := hok.r
        rw [hwv] at hrw
        have HW := Lib.hid hrw
        have HX := Lib.hid hx
        have HWV := Lib.hid hwv
        have G := Lib.hid fun w' (hx : Ext wr w') => given_any x.l w' (hrw.ext (Ext.trans H.out.bel hx)) (by omega)
        clear hx hok hwv hrw
        go_upto_if 36 with fail
        clear x0
        go_cut [4, 6] (fun u q wx => ∃ (L' : List Tk) (R' : List Sd) (T : List Int) (A : Option Addr) (c : Nat), q = .slice A T.length c ∧ R'.length ≤ k + 1 ∧ Hid (OSt w [rdOb (.slice A T.length c) T, sdOb u R'.length R', lkOb g L'] wx) ∧ Hid (SMid L' R' T) ∧ Hid (∀ s ∈ R', RWn w s.v s.l ∧ s.l.length ≤ 50))
        case first => as_aux_lemma =>
          by_cases hk0 : x.k = 0
          · as_aux_lemma =>
            have hk0' : (x.k == 0) = true := by rw [hk0]; rfl
            obtain ⟨So, HSo⟩ : ∃ So : Nat → Prop, Hid (So = fun j => w.heap.size ≤ j) := ⟨_, Lib.hid rfl⟩
            have hng : ¬ So b := by
              rw [HSo.out]
              obtain ⟨b', off', hA, hb', -⟩ := HR.out.at (by omega)
              cases hA
              omega
            have e0 : ∀ (ψ : World → Prop) (e : ExtS So wr ψ), e.val.cell? ⟨b, off + k * 3 + 1, none⟩ = some (.int .i64 x.t) := fun ψ e => e.cell x1 hba hng
            have e1 : ∀ (ψ : World → Prop) (e : ExtS So wr ψ), e.val.cell? ⟨b, off + k * 3 + 2, none⟩ = some (.slice Av x.l.length cw) := fun ψ e => e.cell x4 hba hng
            clear x1 x4 hk0 hng
            go_wp2
            refine wp_region_piecesS So 17 [(true, [0, 1, 2, 3, 4, 5, 6, 7, 8, 9, 10]), (false, [11]), (false, [12]), (true, [13, 14, 15, 16])] (by kernel_rfl) (by kernel_rfl) ?_
            simp only [pick, List.map_cons, List.map_nil, List.flatMap_cons, List.flatMap_nil, Option.toList_some, List.singleton_append, List.drop_succ_cons, List.drop_zero, List.getElem?_cons_zero, List.getElem?_cons_succ]
            refine ⟨by kernel_rfl, ?_⟩; apply Exists.intro; refine ⟨fun ψ hψ hne => (by (repeat (go_big_quiet_step (( fail )))); exact wpQuiet_nil rfl), ?_⟩
            clear e0 e1
            intro W0 h0 K hK
            go_wp2_with (go_at_call 14; refine (G.out W0 h0).mono ?_; rintro e W1 ⟨v1, rfl, ho1, h1⟩)
            refine hK _ _ (Mut.of_ext h1) ?_
            clear hK K
            intro W2 h2 K hK
            have HN := Lib.hid (((H.out.ext h0).ext h1).ext h2)
            have hv2 := (ho1.ext h2).rr (by omega)
            obtain ⟨e6, he6⟩ : ∃ e, askE L x.t x.l = e := ⟨_, rfl⟩
            obtain ⟨b6, hb6⟩ : ∃ b, askB L x.t x.l = b := ⟨_, rfl⟩
            have KA := Lib.hid (askOM 1 HN.out rfl x.t x.l hv2 (by omega) b6 e6 _ hb6 he6 rfl)
            have HE6 := Lib.hid he6
            have HB6 := Lib.hid hb6
            clear h0 h1 h2 hv2 ho1 H G he6 hb6
            go_wp2_with (go_at_call 13; refine KA.out.mono ?_; rintro e w5 ⟨rfl, h5, hm5⟩)
            refine hK _ _ (by rw [HSo.out]; exact hm5) ?_
            clear hK K hm5
            refine ⟨by kernel_rfl, ?_⟩; apply Exists.intro; refine ⟨fun ψ hψ hne => (by (repeat (go_big_quiet_step (( fail )))); exact wpQuiet_nil rfl), ?_⟩
            intro w6 h6
            have H6 : Hid (OSt w [sdOb (.slice Ao R.length co) R.length R, lkOb g (askL L x.t x.l)] w6) := Lib.hid (h5.ext h6)
            clear h5 h6 HN KA HSo
            by_cases hz6 : e6 = 0
            · subst hz6
              obtain ⟨-, y1, y4⟩ := ROp.op (HR.out.ext H6.out.bel) HX.out
              rw [HWV.out] at y4
              have hba6 : b < w6.heap.size := by
                obtain ⟨b', off', hA, hb', -⟩ := (HR.out.ext H6.out.bel).at (by omega)
                cases hA
                exact hb'
              have e0 := fun (ψ : World → Prop) (e : ExtP w6.heap.size w6 ψ) => e.cell y1 hba6
              have e1 := fun (ψ : World → Prop) (e : ExtP w6.heap.size w6 ψ) => e.cell y4 hba6
              clear y1 y4
              go_wp2
              refine wp_region_pieces 14  [(true, [0, 1, 2, 3, 4, 5, 6, 7, 8, 9, 10, 11, 12]), (false, [13])] (by kernel_rfl) (by kernel_rfl) ?_; simp only [pick, List.map_cons, List.map_nil, List.flatMap_cons, List.flatMap_nil, Option.toList_some, List.singleton_append, List.drop_succ_cons, List.drop_zero, List.getElem?_cons_zero, List.getElem?_cons_succ]
              refine ⟨by kernel_rfl, ?_⟩; apply Exists.intro; refine ⟨fun ψ hψ hne => (by (repeat (go_big_quiet_step (( fail )))); exact wpQuiet_nil rfl), ?_⟩
              clear e0 e1
              intro W3 h3 K hK
              go_wp2_with fail
              refine hK _ _ (extAl _ _) ?_
              intro W4 h4
              have hgn : W4.heap[W3.heap.size]? = some (.cells (sdC ⟨x.t, x.wv, x.l, b6⟩).toArray 38 (0, 0)) := by
                have := Ext.blk h4 (heap_alloc_last W3 (.cells #[.int .i64 x.t, .slice Av x.l.length cw, .bool b6] 38))
                rw [this, ← HWV.out]
                rfl
              have h8 := (((H6.out.ext h3).ext (extAl W3 (.cells #[.int .i64 x.t, .slice Av x.l.length cw, .bool b6] 38))).ext h4)
              obtain ⟨v', W5, hr5, h5⟩ := h8.appSd 0 rfl ⟨x.t, x.wv, x.l, b6⟩ (by rw [HWV.out]; rfl) (by omega) hgn
              have Hr := Lib.hid hr5
              have hI := HI.out.ask x.t x.l x.wv HE6.out
              rw [HB6.out] at hI
              have HM := Lib.hid hI.mid
              have H7 : Hid (OSt w [sdOb v' (R ++ [Sd.mk x.t x.wv x.l b6]).length (R ++ [Sd.mk x.t x.wv x.l b6]), lkOb g (askL L x.t x.l)] W5) := Lib.hid (by
                rw [List.length_append]
                exact h5)
              clear h8 hgn h3 h4 hr5 h5 H6 hK hI
              go_wp2_with (refine wpList_app rfl (.tmp 55) (.tmp 68) 27 27 rfl Hr.out ?_; simp only [Act.put])
              go_meet
              case rel =>
                refine ⟨_, R ++ [Sd.mk x.t x.wv x.l b6], [], none, 0, rfl, by rw [List.length_append]; simp; omega, Lib.hid H7.out.rdNil, HM, Lib.hid fun s hs => ?_⟩
                rcases List.mem_append.1 hs with h | h
                · exact HRL.out s h
                · obtain rfl := List.mem_singleton.1 h
                  refine ⟨?_, hx50⟩
                  rw [HWV.out]
                  exact HW.out
            · have HT6 : Hid (askL L x.t x.l = L) := Lib.hid (SIn.no_ask (by rw [HE6.out]; exact hz6))
              have hz6' : (e6 == 0) = false := by rw [beq_eq_false_iff_ne]; exact hz6
              rw [HT6.out] at H6
              go_wp2
              go_meet
              case rel => exact ⟨L, R, [], none, 0, rfl, by omega, Lib.hid H6.out.rdNil, Lib.hid HI.out.mid, HRL⟩
          · have hk0' : (x.k == 0) = false := by rw [beq_eq_false_iff_ne]; exact hk0
            clear x4 hk0
            cases hat : atL L x.t with
            | none =>
              obtain ⟨d1, d2, d3, d4⟩ := HI.out.no_drop hat
              have KD := Lib.hid (dropO 1 H.out rfl x.t [] 5 L d1 d3 d2)
              have HD4 := Lib.hid d4
              clear hat d1 d2 d3 d4 G
              go_wp2_with fail
              refine KD.out.mono ?_
              rintro e w7 ⟨A7, c7, rfl, h7⟩
              have H7 : Hid (OSt w [rdOb (.slice A7 0 c7) [], sdOb (.slice Ao R.length co) R.length R, lkOb g L] w7) := Lib.hid h7
              clear h7 KD x1
              go_wp2
              obtain ⟨wo, rfl⟩ : ∃ wo : World, wo = wr := ⟨_, rfl⟩
              obtain ⟨gko, rfl⟩ : ∃ g : Nat, g = gk := ⟨_, rfl⟩
              go_loopg [4, 11] R.length (fun gg u s wx => u = .slice Ao R.length co ∧ ∃ m : Nat, m ≤ R.length ∧ R.length - m ≤ gg ∧ s = .int .i64 m ∧ Hid (Ext w7 wx))
              case atStart => exact ⟨rfl, 0, Nat.zero_le _, by omega, rfl, Lib.hid (Ext.refl _)⟩
              case round =>
                obtain ⟨rfl, m, hm, hg3, rfl, HW7⟩ := hrel
                have HX7 := Lib.hid (H7.out.ext HW7.out)
                by_cases hlt2 : m < R.length
                · obtain ⟨z, hz⟩ : ∃ z, R[m]? = some z := ⟨_, List.getElem?_eq_getElem hlt2⟩
                  have hzn : z.n ≠ x.t := HD4.out m z hz
                  have hzn' : (z.n == x.t) = false := by rw [beq_eq_false_iff_ne]; exact hzn
                  obtain ⟨-, y1, -⟩ := ROp.op (HR.out.ext HX7.out.bel) HX.out
                  have hba2 : b < wr.heap.size := by
                    obtain ⟨b', off', hA, hb', -⟩ := (HR.out.ext HX7.out.bel).at (by omega)
                    cases hA
                    exact hb'
                  obtain ⟨b7, rfl, -⟩ := (HX7.out.own 1 rfl).cells (by omega)
                  obtain ⟨zbl, zbc, zbj, -⟩ := own_flat (HX7.out.own 1 rfl) sdC_length rfl hz
                  have zbc := zbc (by omega)
                  have z0 := zbj 0 (by omega)
                  simp only [sdC, Nat.add_zero, List.getElem?_cons_zero] at z0
                  have e0 := fun (ψ : World → Prop) (e : ExtP wr.heap.size wr ψ) => e.cell y1 hba2
                  have e1 := fun (ψ : World → Prop) (e : ExtP wr.heap.size wr ψ) => e.cell z0 zbl
                  clear y1 z0 zbj
                  clear hzn hz
                  go_wp2
                  refine wp_region_pieces 15  [(true, [0, 1, 2, 3, 4, 5, 6, 7, 8, 9, 10, 11, 12, 13, 14])] (by kernel_rfl) (by kernel_rfl) ?_; simp only [pick, List.map_cons, List.map_nil, List.flatMap_cons, List.flatMap_nil, Option.toList_some, List.singleton_append, List.drop_succ_cons, List.drop_zero, List.getElem?_cons_zero, List.getElem?_cons_succ]
                  refine ⟨by kernel_rfl, ?_⟩; apply Exists.intro; refine ⟨fun ψ hψ hne => (by (repeat (go_big_quiet_step (( fail )))); exact wpQuiet_nil rfl), ?_⟩
                  intro w8 h8
                  have HW8 := Lib.hid (Ext.trans HW7.out h8)
                  clear e0 e1 h8 HX7 HW7
                  go_wp2
                  go_roundg (R.length - (m + 1))
                  case measure => omega
                  case rel => exact ⟨rfl, m + 1, by omega, by omega, by go_num, HW8⟩
                · obtain rfl : m = R.length := by omega
                  go_wp2
                  go_meet
                  case rel => exact ⟨L, R, [], A7, c7, rfl, by omega, HX7, Lib.hid HI.out.mid, HRL⟩
            | some i => as_aux_lemma =>
              obtain ⟨d1, d2, d3, s0, hs0, d4⟩ := HI.out.drop hat
              have KD := Lib.hid (dropO 1 H.out rfl x.t _ 0 _ rfl d3 d2)
              have HD4 := Lib.hid (And.intro hs0 d4)
              have HMM := Lib.hid d1
              have hiR := (List.getElem?_eq_some_iff.1 hs0).1
              clear hat d1 d2 d3 d4 hs0 G
              go_wp2_with fail
              refine KD.out.mono ?_
              rintro e w7 ⟨A7, c7, rfl, h7⟩
              have H7 : Hid (OSt w [rdOb (.slice A7 (dropT L x.t).length c7) (dropT L x.t), sdOb (.slice Ao R.length co) R.length R, lkOb g (L.eraseIdx i)] w7) := Lib.hid h7
              clear h7 KD x1
              go_wp2
              obtain ⟨wo, rfl⟩ : ∃ wo : World, wo = wr := ⟨_, rfl⟩
              obtain ⟨gko, rfl⟩ : ∃ g : Nat, g = gk := ⟨_, rfl⟩
              go_loopg [4, 11] i (fun gg u s wx => u = .slice Ao R.length co ∧ ∃ m : Nat, m ≤ i ∧ i - m ≤ gg ∧ s = .int .i64 m ∧ Hid (Ext w7 wx))
              case atStart => exact ⟨rfl, 0, Nat.zero_le _, by omega, rfl, Lib.hid (Ext.refl _)⟩
              case round =>
                obtain ⟨rfl, m, hm, hg3, rfl, HW7⟩ := hrel
                have HX7 := Lib.hid (H7.out.ext HW7.out)
                have hlt2 : m < R.length := by omega
                obtain ⟨z, hz⟩ : ∃ z, R[m]? = some z := ⟨_, List.getElem?_eq_getElem hlt2⟩
                by_cases hmi : m = i
                · subst hmi
                  obtain rfl : z = s0 := Option.some.inj (hz.symm.trans HD4.out.1)
                  have hzn : z.n = x.t := HD4.out.2
                  have hzn' : (z.n == x.t) = true := by rw [beq_iff_eq]; exact hzn
                  obtain ⟨-, y1, -⟩ := ROp.op (HR.out.ext HX7.out.bel) HX.out
                  have hba2 : b < wr.heap.size := by
                    obtain ⟨b', off', hA, hb', -⟩ := (HR.out.ext HX7.out.bel).at (by omega)
                    cases hA
                    exact hb'
                  obtain ⟨b7, rfl, -⟩ := (HX7.out.own 1 rfl).cells (by omega)
                  obtain ⟨zbl, zbc, zbj, -⟩ := own_flat (HX7.out.own 1 rfl) sdC_length rfl hz
                  have zbc := zbc (by omega)
                  have z0 := zbj 0 (by omega)
                  simp only [sdC, Nat.add_zero, List.getElem?_cons_zero] at z0
                  have e0 := fun (ψ : World → Prop) (e : ExtP wr.heap.size wr ψ) => e.cell y1 hba2
                  have e1 := fun (ψ : World → Prop) (e : ExtP wr.heap.size wr ψ) => e.cell z0 zbl
                  clear y1 z0 zbj
                  clear hzn hz
                  go_wp2
                  refine wp_region_pieces 15  [(true, [0, 1, 2, 3, 4, 5, 6, 7, 8, 9, 10, 11, 12, 13, 14])] (by kernel_rfl) (by kernel_rfl) ?_; simp only [pick, List.map_cons, List.map_nil, List.flatMap_cons, List.flatMap_nil, Option.toList_some, List.singleton_append, List.drop_succ_cons, List.drop_zero, List.getElem?_cons_zero, List.getElem?_cons_succ]
                  refine ⟨by kernel_rfl, ?_⟩; apply Exists.intro; refine ⟨fun ψ hψ hne => (by (repeat (go_big_quiet_step (( fail )))); exact wpQuiet_nil rfl), ?_⟩
                  intro w8 h8
                  replace HX7 := Lib.hid (HX7.out.ext h8)
                  clear e0 e1 h8 HW7 H7 zbl
                  go_wp2
                  obtain ⟨So, HSo⟩ : ∃ So : Nat → Prop, Hid (So = fun j => w8.heap.size ≤ j) := ⟨_, Lib.hid rfl⟩
                  have hic : m ≤ co := by omega
                  have hi1 : m + 1 ≤ R.length := by omega
                  have hrr := (HX7.out.own 1 rfl).rr (by omega)
                  have hpre : RR w8 3 (.slice (some ⟨b7, 0, none⟩) m co) m ((R.take m).flatMap sdC) := RR.take (enc := sdC) sdC_length hrr hlt2
                  have hsuf : RR w8 3 (.slice (some ⟨b7, (m + 1) * 3, none⟩) (R.length - (m + 1)) (co - (m + 1))) (R.length - (m + 1)) ((R.drop (m + 1)).flatMap sdC) := by
                    have := RR.drop (enc := sdC) (c' := co - (m + 1)) sdC_length hrr hi1 (by omega) rfl (by omega)
                    rw [Nat.zero_add] at this
                    exact this
                  have hsuf0 : co = m + 1 → RR w8 3 (.slice (some ⟨b7, 0, none⟩) 0 0) 0 ((R.drop (m + 1)).flatMap sdC) := fun hc => by
                    have hz : R.length - (m + 1) = 0 := by omega
                    have h1 := hsuf.1
                    rw [hz] at h1
                    exact ⟨h1, .inl ⟨some ⟨b7, 0, none⟩, 0, rfl, rfl⟩⟩
                  have ho1 : ∀ u ∈ (R.take m).flatMap sdC, One u := sds_one fun s hs => rwn_one (HRL.out s (List.mem_of_mem_take hs)).1
                  have ho2 : ∀ u ∈ (R.drop (m + 1)).flatMap sdC, One u := sds_one fun s hs => rwn_one (HRL.out s (List.mem_of_mem_drop hs)).1
                  have HPre := Lib.hid hpre
                  have HSuf := Lib.hid hsuf
                  have HSuf0 := Lib.hid hsuf0
                  have HO1 := Lib.hid ho1
                  have HO2 := Lib.hid ho2
                  clear hrr hpre hsuf hsuf0 ho1 ho2
                  refine wp_region_piecesS So 9 [(true, [1, 2, 3, 5, 6, 7, 8]), (false, [0]), (false, [4])] (by kernel_rfl) (by kernel_rfl) ?_
                  by_cases hci : co = m + 1
                  · subst hci
                    have HS := HSuf0.out rfl
                    simp only [pick, List.map_cons, List.map_nil, List.flatMap_cons, List.flatMap_nil, Option.toList_some, List.singleton_append, List.drop_succ_cons, List.drop_zero, List.getElem?_cons_zero, List.getElem?_cons_succ]
                    refine ⟨by kernel_rfl, ?_⟩; apply Exists.intro; refine ⟨fun ψ hψ hne => (by (repeat (go_big_quiet_step (( fail )))); exact wpQuiet_nil rfl), ?_⟩
                    intro W0 h0 K hK
                    go_wp2_with fail
                    refine hK _ _ (Mut.of_ext (extAl _ _)) ?_
                    clear hK
                    have hx0 : Ext w8 (W0.alloc (.cells #[] 38)) := Ext.trans h0 (extAl W0 _)
                    have hz0 := alloc_row0 W0 38 W0.heap.size 3 One (Nat.le_refl _)
                    have hs0 := Below.size h0
                    intro W1 h1 K hK
                    have hl0 : W0.heap.size ≤ W1.heap.size := by have := Below.size h1; simp at this; omega
                    have hx1 := Ext.trans hx0 h1
                    obtain ⟨v1, W1', hr1, hw1, hb1, hgr1, -⟩ := app_sd (B := W0.heap.size) (tx := 27) (ty := 27) (hz0.ext h1) ((HPre.out.ext hx1).src Try.underlying27 HO1.out) hl0 HO1.out (by omega)
                    simp only [Nat.zero_add, List.nil_append] at hw1
                    obtain ⟨A3, c3, rfl⟩ := hw1.form
                    have Hr1 := Lib.hid hr1
                    have MB1 : Hid (Mut So W1 W1') := Lib.hid (Mut.of_grown hgr1 fun b hb => by rw [HSo.out]; simp [Value.ownBlock] at hb; omega)
                    have HX1 : Hid (Ext w8 W1') := Lib.hid (Below.trans hx1 (hb1.mono hs0))
                    have HW1 := Lib.hid hw1
                    clear hr1 hgr1 hb1 hw1 hx1 hz0 hx0 h0 h1
                    go_wp2_with (at_builtin; refine wpList_app rfl (.tmp 102) (.tmp 105) 27 27 rfl Hr1.out ?_; simp only [Act.put])
                    refine hK _ _ MB1.out ?_
                    clear hK
                    simp only [List.setIfInBounds_toArray, List.set_cons_zero, List.set_cons_succ]
                    intro W2 h2
                    have hl2 := Nat.le_trans hl0 (Nat.le_trans MB1.out.size (Below.size h2))
                    have hx2 := Ext.trans HX1.out h2
                    obtain ⟨v2, W2', hr2, hw2, hb2, hgr2, hov2⟩ := app_sd (B := W0.heap.size) (tx := 27) (ty := 27) (HW1.out.ext h2) ((HS.ext hx2).src Try.underlying27 HO2.out) hl2 HO2.out (by omega)
                    obtain ⟨A4, c4, rfl⟩ := hw2.form
                    have Hr2 := Lib.hid hr2
                    have HX2 : Hid (Ext w8 W2') := Lib.hid (Below.trans hx2 (hb2.mono hs0))
                    have hlen : (R.eraseIdx m).length = m + 0 := by rw [List.length_eraseIdx, if_pos hlt2]; omega
                    have hce : (R.eraseIdx m).flatMap sdC = (R.take m).flatMap sdC ++ (R.drop (m + 1)).flatMap sdC := by rw [List.eraseIdx_eq_take_drop_succ, List.flatMap_append]
                    have HFin : Hid (OSt w [rdOb (.slice A7 (dropT L x.t).length c7) (dropT L x.t), sdOb (.slice A4 (m + 0) c4) (R.eraseIdx m).length (R.eraseIdx m), lkOb g (L.eraseIdx m)] W2') := Lib.hid (by
                      refine HX7.out.swap HX2.out 1 rfl ⟨?_, fun b hb => ?_⟩
                      · rw [hlen, hce]
                        exact hw2.mono (Nat.zero_le _)
                      · have := own_lt hw2 hb
                        omega)
                    have hl16 : (R.eraseIdx m).length ≤ k + 1 := by omega
                    have HL16 := Lib.hid hl16
                    clear hr2 hgr2 hb2 hw2 hx2 h2 hov2 hlen hce hl16
                    go_wp2_with (at_builtin; refine wpList_app rfl (.tmp 106) (.tmp 110) 27 27 rfl Hr2.out ?_; simp only [Act.put])
                    go_meet
                    case rel => exact ⟨L.eraseIdx m, R.eraseIdx m, dropT L x.t, A7, c7, rfl, HL16.out, HFin.out, HMM, Lib.hid fun s hs => HRL.out s (List.mem_of_mem_eraseIdx hs)⟩
                  · have HS := HSuf.out
                    simp only [pick, List.map_cons, List.map_nil, List.flatMap_cons, List.flatMap_nil, Option.toList_some, List.singleton_append, List.drop_succ_cons, List.drop_zero, List.getElem?_cons_zero, List.getElem?_cons_succ]
                    refine ⟨by kernel_rfl, ?_⟩; apply Exists.intro; refine ⟨fun ψ hψ hne => (by (repeat (go_big_quiet_step (( fail )))); exact wpQuiet_nil rfl), ?_⟩
                    intro W0 h0 K hK
                    go_wp2_with fail
                    refine hK _ _ (Mut.of_ext (extAl _ _)) ?_
                    clear hK
                    have hx0 : Ext w8 (W0.alloc (.cells #[] 38)) := Ext.trans h0 (extAl W0 _)
                    have hz0 := alloc_row0 W0 38 W0.heap.size 3 One (Nat.le_refl _)
                    have hs0 := Below.size h0
                    intro W1 h1 K hK
                    have hl0 : W0.heap.size ≤ W1.heap.size := by have := Below.size h1; simp at this; omega
                    have hx1 := Ext.trans hx0 h1
                    obtain ⟨v1, W1', hr1, hw1, hb1, hgr1, -⟩ := app_sd (B := W0.heap.size) (tx := 27) (ty := 27) (hz0.ext h1) ((HPre.out.ext hx1).src Try.underlying27 HO1.out) hl0 HO1.out (by omega)
                    simp only [Nat.zero_add, List.nil_append] at hw1
                    obtain ⟨A3, c3, rfl⟩ := hw1.form
                    have Hr1 := Lib.hid hr1
                    have MB1 : Hid (Mut So W1 W1') := Lib.hid (Mut.of_grown hgr1 fun b hb => by rw [HSo.out]; simp [Value.ownBlock] at hb; omega)
                    have HX1 : Hid (Ext w8 W1') := Lib.hid (Below.trans hx1 (hb1.mono hs0))
                    have HW1 := Lib.hid hw1
                    clear hr1 hgr1 hb1 hw1 hx1 hz0 hx0 h0 h1
                    go_wp2_with (at_builtin; refine wpList_app rfl (.tmp 102) (.tmp 105) 27 27 rfl Hr1.out ?_; simp only [Act.put])
                    refine hK _ _ MB1.out ?_
                    clear hK
                    simp only [List.setIfInBounds_toArray, List.set_cons_zero, List.set_cons_succ]
                    intro W2 h2
                    have hl2 := Nat.le_trans hl0 (Nat.le_trans MB1.out.size (Below.size h2))
                    have hx2 := Ext.trans HX1.out h2
                    obtain ⟨v2, W2', hr2, hw2, hb2, hgr2, hov2⟩ := app_sd (B := W0.heap.size) (tx := 27) (ty := 27) (HW1.out.ext h2) ((HS.ext hx2).src Try.underlying27 HO2.out) hl2 HO2.out (by omega)
                    obtain ⟨A4, c4, rfl⟩ := hw2.form
                    have Hr2 := Lib.hid hr2
                    have HX2 : Hid (Ext w8 W2') := Lib.hid (Below.trans hx2 (hb2.mono hs0))
                    have hlen : (R.eraseIdx m).length = m + (R.length - (m + 1)) := by rw [List.length_eraseIdx, if_pos hlt2]; omega
                    have hce : (R.eraseIdx m).flatMap sdC = (R.take m).flatMap sdC ++ (R.drop (m + 1)).flatMap sdC := by rw [List.eraseIdx_eq_take_drop_succ, List.flatMap_append]
                    have HFin : Hid (OSt w [rdOb (.slice A7 (dropT L x.t).length c7) (dropT L x.t), sdOb (.slice A4 (m + (R.length - (m + 1))) c4) (R.eraseIdx m).length (R.eraseIdx m), lkOb g (L.eraseIdx m)] W2') := Lib.hid (by
                      refine HX7.out.swap HX2.out 1 rfl ⟨?_, fun b hb => ?_⟩
                      · rw [hlen, hce]
                        exact hw2.mono (Nat.zero_le _)
                      · have := own_lt hw2 hb
                        omega)
                    have hl16 : (R.eraseIdx m).length ≤ k + 1 := by omega
                    have HL16 := Lib.hid hl16
                    clear hr2 hgr2 hb2 hw2 hx2 h2 hov2 hlen hce hl16
                    go_wp2_with (at_builtin; refine wpList_app rfl (.tmp 106) (.tmp 110) 27 27 rfl Hr2.out ?_; simp only [Act.put])
                    go_meet
                    case rel => exact ⟨L.eraseIdx m, R.eraseIdx m, dropT L x.t, A7, c7, rfl, HL16.out, HFin.out, HMM, Lib.hid fun s hs => HRL.out s (List.mem_of_mem_eraseIdx hs)⟩
                · have hzn : z.n ≠ x.t := by rw [← HD4.out.2]; exact sd_nd HI.out.nd hz HD4.out.1 hmi
                  have hzn' : (z.n == x.t) = false := by rw [beq_eq_false_iff_ne]; exact hzn
                  obtain ⟨-, y1, -⟩ := ROp.op (HR.out.ext HX7.out.bel) HX.out
                  have hba2 : b < wr.heap.size := by
                    obtain ⟨b', off', hA, hb', -⟩ := (HR.out.ext HX7.out.bel).at (by omega)
                    cases hA
                    exact hb'
                  obtain ⟨b7, rfl, -⟩ := (HX7.out.own 1 rfl).cells (by omega)
                  obtain ⟨zbl, zbc, zbj, -⟩ := own_flat (HX7.out.own 1 rfl) sdC_length rfl hz
                  have zbc := zbc (by omega)
                  have z0 := zbj 0 (by omega)
                  simp only [sdC, Nat.add_zero, List.getElem?_cons_zero] at z0
                  have e0 := fun (ψ : World → Prop) (e : ExtP wr.heap.size wr ψ) => e.cell y1 hba2
                  have e1 := fun (ψ : World → Prop) (e : ExtP wr.heap.size wr ψ) => e.cell z0 zbl
                  clear y1 z0 zbj
                  clear hzn hz
                  go_wp2
                  refine wp_region_pieces 15  [(true, [0, 1, 2, 3, 4, 5, 6, 7, 8, 9, 10, 11, 12, 13, 14])] (by kernel_rfl) (by kernel_rfl) ?_; simp only [pick, List.map_cons, List.map_nil, List.flatMap_cons, List.flatMap_nil, Option.toList_some, List.singleton_append, List.drop_succ_cons, List.drop_zero, List.getElem?_cons_zero, List.getElem?_cons_succ]
                  refine ⟨by kernel_rfl, ?_⟩; apply Exists.intro; refine ⟨fun ψ hψ hne => (by (repeat (go_big_quiet_step (( fail )))); exact wpQuiet_nil rfl), ?_⟩
                  intro w8 h8
                  have HW8 := Lib.hid (Ext.trans HW7.out h8)
                  clear e0 e1 h8 HX7 HW7
                  go_wp2
                  go_roundg (i - (m + 1))
                  case measure => omega
                  case rel => exact ⟨rfl, m + 1, by omega, by omega, by go_num, HW8⟩
        case rest => as_aux_lemma =>
          clear H HI HRL G hRk
          obtain ⟨L, R, T, Ag, cg, rfl, hR1, H, HM, HRL⟩ := hcut
          obtain ⟨Ao, co, rfl⟩ := (H.out.own 1 rfl).form
          have hRl80 : R.length ≤ 81 := by omega
          go_wp2
          obtain ⟨gko, rfl⟩ : ∃ g : Nat, g = gk := ⟨_, rfl⟩
          go_loopg [6, 12] R.length (fun gg q s wx => ∃ (j : Nat) (T2 : List Int) (A2 : Option Addr) (c2 : Nat), j ≤ R.length ∧ R.length - j ≤ gg ∧ s = .int .i64 j ∧ q = .slice A2 T2.length c2 ∧ Hid (T2 = gotG L (R.drop j) j) ∧ Hid (OSt w [rdOb (.slice A2 T2.length c2) T2, sdOb (.slice Ao R.length co) R.length (upS L j R), lkOb g L] wx))
          case atStart => exact ⟨0, T, Ag, cg, Nat.zero_le _, by omega, rfl, rfl, Lib.hid (by rw [List.drop_zero]; exact HM.out.t.symm), by rw [upS_zero]; exact H⟩
          case round =>
            obtain ⟨j, T2, A2, c2, hj, hg2, rfl, rfl, HT, HS⟩ := hrel
            by_cases hltj : j < R.length
            · obtain ⟨s, hs⟩ : ∃ s, R[j]? = some s := ⟨_, List.getElem?_eq_getElem hltj⟩
              obtain ⟨hrs, hls⟩ := HRL.out s (List.mem_of_getElem? hs)
              obtain ⟨As, cs, es⟩ := hrs.form
              rw [es] at hrs
              have HRs := Lib.hid hrs
              have HEs := Lib.hid es
              have HSs := Lib.hid hs
              obtain ⟨b7, rfl, -⟩ := (HS.out.own 1 rfl).cells (by omega)
              clear hrs es hs
              go_wp2
              obtain ⟨wi, rfl⟩ : ∃ wi : World, wi = wr := ⟨_, rfl⟩
              obtain ⟨gki, rfl⟩ : ∃ g : Nat, g = gk := ⟨_, rfl⟩
              go_loopg [13, 14] j (fun gg f s' wx => ∃ (m : Nat) (fb : Bool), m ≤ j ∧ j - m ≤ gg ∧ s' = .int .i64 m ∧ f = .bool fb ∧ Hid (fb = mayB (L.take m) s.l) ∧ Hid (Ext wi wx))
              case atStart => exact ⟨0, true, Nat.zero_le _, by omega, rfl, rfl, Lib.hid rfl, Lib.hid (Ext.refl _)⟩
              case round =>
                obtain ⟨m, fb, hm, hg3, rfl, rfl, HF, HW3⟩ := hrel
                have H3 := Lib.hid (HS.out.ext HW3.out)
                obtain ⟨ybl, ybc, ybj, ybf⟩ := own_flat (H3.out.own 1 rfl) sdC_length (upS_length L j R) (upS_here HSs.out)
                have ybc := ybc (by omega)
                by_cases hltm : m < j
                · as_aux_lemma =>
                  obtain ⟨z, hz⟩ : ∃ z, R[m]? = some z := ⟨_, List.getElem?_eq_getElem (by omega)⟩
                  have hz' : (upS L j R)[m]? = some { z with h := hasAt L m } := by rw [upS_at, hz]; simp [hltm]
                  obtain ⟨hrz, hlz⟩ := HRL.out z (List.mem_of_getElem? hz)
                  obtain ⟨Az, cz, ez⟩ := hrz.form
                  obtain ⟨-, -, zbj, -⟩ := own_flat (H3.out.own 1 rfl) sdC_length (upS_length L j R) hz'
                  have y1 := ybj 1 (by omega)
                  have z1 := zbj 1 (by omega)
                  simp only [sdC, List.getElem?_cons_zero, List.getElem?_cons_succ] at y1 z1
                  rw [HEs.out] at y1
                  rw [ez] at z1 hrz
                  obtain ⟨cb, hcb⟩ : ∃ cb, clashL z.l s.l = cb := ⟨_, rfl⟩
                  have KC : Hid (∀ (ψ : World → Prop) (e : ExtP wr.heap.size wr ψ), Calls Try.prog 16 #[.slice Az z.l.length cz, .slice As s.l.length cs] e.val fun r w' => r = .returned (.bool cb) ∧ Below e.val.heap.size e.val w') := Lib.hid fun ψ e => by
                    have hx : Ext w e.val := Ext.trans H3.out.bel e.ok
                    rw [← hcb]
                    exact Clash_any z.l s.l e.val (hrz.ext hx) (HRs.out.ext hx) (by omega) (by omega)
                  have hnext : mayB (L.take (m + 1)) s.l = (fb && !cb) := by
                    have hq : L[m]? = some (z.n, z.l) := by rw [← HM.out.l]; exact lkS_at hz
                    rw [mayB_succ hq, ← HF.out, hcb]
                  have hhas : cb = true → hasAt L m = true → hasAt L j = false := by
                    intro h1 _
                    have hq : L[m]? = some (z.n, z.l) := by rw [← HM.out.l]; exact lkS_at hz
                    have hq2 : L[j]? = some (s.n, s.l) := by rw [← HM.out.l]; exact lkS_at HSs.out
                    rw [hasAt_some hq2, Bool.eq_false_iff]
                    intro h2
                    have h3 := mayB_sub (a := L.take (m + 1)) (fun q hq => (List.take_subset_take_left L (by omega : m + 1 ≤ j)) hq) h2
                    rw [mayB_succ hq, hcb, h1] at h3
                    simp at h3
                  have HN := Lib.hid hnext
                  have HH := Lib.hid hhas
                  have hnm : hasL L z.n = hasAt L m := by rw [← HM.out.l]; exact hasL_nd HM.out.nd hz
                  have hnj : hasL L s.n = hasAt L j := by rw [← HM.out.l]; exact hasL_nd HM.out.nd HSs.out
                  have HNm := Lib.hid hnm
                  have HNj := Lib.hid hnj
                  have HZ := Lib.hid hz'
                  have e0 := fun (ψ : World → Prop) (e : ExtP wr.heap.size wr ψ) => e.cell y1 ybl
                  have e1 := fun (ψ : World → Prop) (e : ExtP wr.heap.size wr ψ) => e.cell z1 ybl
                  clear y1 z1 zbj ybj ybf hz hz' hrz ez hcb hnext hhas hnm hnj
                  go_wp2
                  refine wp_region_pieces 12  [(true, [0, 1, 2, 3, 4, 5, 6, 7, 8, 9, 10, 11])] (by kernel_rfl) (by kernel_rfl) ?_; simp only [pick, List.map_cons, List.map_nil, List.flatMap_cons, List.flatMap_nil, Option.toList_some, List.singleton_append, List.drop_succ_cons, List.drop_zero, List.getElem?_cons_zero, List.getElem?_cons_succ]
                  refine ⟨by kernel_rfl, ?_⟩; apply Exists.intro; refine ⟨fun ψ hψ hne => (by (repeat (go_big_quiet_step (( go_at_call 16; exact extP_of hψ (Nat.le_refl _) (KC.out _ _) )))); exact wpQuiet_nil rfl), ?_⟩
                  intro w4 h4
                  clear e0 e1 KC
                  have HW4 := Lib.hid (Ext.trans HW3.out h4)
                  have H4 := Lib.hid (H3.out.ext h4)
                  clear h4 H3 HW3 HF
                  cases cb with
                  | false => as_aux_lemma =>
                    have HN' : Hid (fb = mayB (L.take (m + 1)) s.l) := Lib.hid (by rw [HN.out]; simp)
                    clear HN HH
                    cases fb
                    all_goals
                      go_wp2
                      go_roundg (j - (m + 1))
                      case measure => omega
                      case rel => exact ⟨m + 1, _, by omega, by omega, by go_num, rfl, HN', HW4⟩
                  | true => as_aux_lemma =>
                    have HN' : Hid (false = mayB (L.take (m + 1)) s.l) := Lib.hid (by rw [HN.out]; simp)
                    have KZ := Lib.hid (hasO 2 H4.out rfl z.n _ HNm.out)
                    obtain ⟨-, -, zbj, -⟩ := own_flat (H4.out.own 1 rfl) sdC_length (upS_length L j R) HZ.out
                    have z0 := zbj 0 (by omega)
                    have ybl4 : b7 < w4.heap.size := (own_lt (H4.out.own 1 rfl) rfl).2
                    simp only [sdC, Nat.add_zero, List.getElem?_cons_zero] at z0
                    obtain ⟨hb, hhb⟩ : ∃ hb, hasAt L m = hb := ⟨_, rfl⟩
                    rw [hhb] at KZ
                    have HHb := Lib.hid hhb
                    clear zbj hhb HN ybl
                    cases hb with
                    | false =>
                      cases fb
                      all_goals
                        go_wp2_with (go_at_call 17; refine KZ.out.mono ?_; rintro e w5 ⟨rfl, h5⟩; have HW5 := Lib.hid (Ext.trans HW4.out h5); clear h5 HW4 KZ)
                        go_roundg (j - (m + 1))
                        case measure => omega
                        case rel => exact ⟨m + 1, _, by omega, by omega, by go_num, rfl, HN', HW5⟩
                    | true =>
                      have KS : Hid (∀ w5, Ext w4 w5 → Calls Try.prog 17 #[.pointer (some ⟨g, 0, none⟩), .int .i64 s.n] w5 fun r w' => r = .returned (.bool false) ∧ Ext w5 w') := Lib.hid fun w5 h5 => by
                        have h0 := HNj.out
                        rw [HH.out rfl HHb.out] at h0
                        exact hasO 2 (H4.out.ext h5) rfl s.n _ h0
                      cases fb
                      all_goals
                        go_wp2_with fail
                        refine KZ.out.mono ?_
                        rintro e w5 ⟨rfl, h5⟩
                        obtain ⟨-, -, ybj, -⟩ := own_flat ((H4.out.ext h5).own 1 rfl) sdC_length (upS_length L j R) (upS_here HSs.out)
                        have y0 := ybj 0 (by omega)
                        simp only [sdC, Nat.add_zero, List.getElem?_cons_zero] at y0
                        have K5 := Lib.hid (KS.out w5 h5)
                        have HW5 := Lib.hid (Ext.trans HW4.out h5)
                        have ybl5 : b7 < w5.heap.size := Nat.lt_of_lt_of_le ybl4 (Below.size h5)
                        clear h5 HW4 KZ KS ybj z0 ybl4
                        go_wp2_with (go_at_call 17; refine K5.out.mono ?_; rintro e w6 ⟨rfl, h6⟩; have HW6 := Lib.hid (Ext.trans HW5.out h6); clear h6 HW5 K5)
                        go_roundg (j - (m + 1))
                        case measure => omega
                        case rel => exact ⟨m + 1, _, by omega, by omega, by go_num, rfl, HN', HW6⟩
                · as_aux_lemma =>
                  obtain rfl : j = m := by omega
                  have hq2 : L[j]? = some (s.n, s.l) := by rw [← HM.out.l]; exact lkS_at HSs.out
                  have hij : hasAt L j = fb := by rw [hasAt_some hq2, HF.out]
                  have hnj : hasL L s.n = fb := by rw [← hij, ← HM.out.l]; exact hasL_nd HM.out.nd HSs.out
                  have KS := Lib.hid (hasO 2 H3.out rfl s.n fb hnj)
                  have hdr : R.drop j = s :: R.drop (j + 1) := by rw [List.drop_eq_getElem_cons hltj, show R[j] = s from Option.some.inj ((List.getElem?_eq_getElem hltj).symm.trans HSs.out)]
                  have hT' : T2 = (if !s.h && fb then [s.n] else []) ++ gotG L (R.drop (j + 1)) (j + 1) := by
                    rw [HT.out, hdr, ← hij]
                    rfl
                  have hsh : s.h = true → fb = true := fun h => by rw [← hij]; exact HM.out.h j s HSs.out h
                  have hj0 : fb = false → ((j : Int) == 0) = false := fun h => by
                    rw [beq_eq_false_iff_ne]
                    intro h0
                    obtain rfl : j = 0 := by omega
                    rw [hasAt_first hq2, h] at hij
                    cases hij
                  have hup : ((upS L j R).flatMap sdC).set (j * 3 + 2) (.bool fb) = (upS L (j + 1) R).flatMap sdC := by rw [upS_succ HSs.out, hij, sd_set (upS_here HSs.out)]
                  have hjl : j * 3 + 2 < ((upS L j R).flatMap sdC).length := by rw [flat_length sdC_length, upS_length]; omega
                  have HTT := Lib.hid hT'
                  have HSt : Hid (∀ (D : Ob Zf) (w5 : World), OSt w [D, sdOb (.slice (some ⟨b7, 0, none⟩) R.length co) R.length (upS L j R), lkOb g L] w5 → OSt w [D, sdOb (.slice (some ⟨b7, 0, none⟩) R.length co) R.length (upS L (j + 1) R), lkOb g L] (w5.setCell ⟨b7, j * 3 + 2, none⟩ (.bool fb))) := Lib.hid fun D w5 h5 => by
                    have := h5.setOwn 1 rfl (j := j * 3 + 2) (x := .bool fb) hjl rfl
                    rw [hup] at this
                    exact this
                  have Y0 := Lib.hid (ybj 0 (by omega))
                  clear ybj ybf HF HT hq2 hij hnj hT' hup hdr hjl
                  have HY := Lib.hid (upS_here (L := L) HSs.out)
                  have y0 := Y0.out
                  simp only [sdC, Nat.add_zero, List.getElem?_cons_zero] at y0
                  clear Y0
                  obtain ⟨sh, hshe⟩ : ∃ sh, s.h = sh := ⟨_, rfl⟩
                  rw [hshe] at hsh HTT
                  have HShe := Lib.hid hshe
                  clear hshe
                  go_wp2_with fail
                  refine KS.out.mono ?_
                  rintro e w5 ⟨rfl, h5⟩
                  have H5 := Lib.hid (H3.out.ext h5)
                  obtain ⟨ybl5, -, ybj5, ybf5⟩ := own_flat (H5.out.own 1 rfl) sdC_length (upS_length L j R) HY.out
                  have y0' := ybj5 0 (by omega)
                  have y2' := ybj5 2 (by omega)
                  simp only [sdC, Nat.add_zero, List.getElem?_cons_zero, List.getElem?_cons_succ] at y0' y2'
                  rw [HShe.out] at y2'
                  have f2 := ybf5 (j * 3 + 2)
                  clear h5 H3 KS y0 ybl ybj5 ybf5 HW3
                  cases fb with
                  | false => as_aux_lemma =>
                    have hj0' := hj0 rfl
                    have HT' : Hid (T2 = gotG L (R.drop (j + 1)) (j + 1)) := Lib.hid (by rw [HTT.out]; simp)
                    obtain rfl : sh = false := by cases sh with
                      | false => rfl
                      | true => cases hsh rfl
                    have HE := Lib.hid (HSt.out _ _ H5.out)
                    clear HTT hj0 hsh HSt H5
                    go_wp2
                    go_roundg (R.length - (j + 1))
                    case measure => omega
                    case rel => exact ⟨j + 1, T2, A2, c2, by omega, by omega, by go_num, rfl, HT', HE⟩
                  | true => as_aux_lemma =>
                    cases sh with
                    | true =>
                      have HT' : Hid (T2 = gotG L (R.drop (j + 1)) (j + 1)) := Lib.hid (by rw [HTT.out]; simp)
                      have HE := Lib.hid (HSt.out _ _ H5.out)
                      clear HTT hj0 hsh HSt H5
                      obtain ⟨jb, hjb⟩ : ∃ jb, ((j : Int) == 0) = jb := ⟨_, rfl⟩
                      cases jb
                      all_goals
                        go_wp2
                        go_roundg (R.length - (j + 1))
                        case measure => omega
                        case rel => exact ⟨j + 1, T2, A2, c2, by omega, by omega, by go_num, rfl, HT', HE⟩
                    | false => as_aux_lemma =>
                      obtain ⟨T3, hT3⟩ : ∃ T3, gotG L (R.drop (j + 1)) (j + 1) = T3 := ⟨_, rfl⟩
                      have hT2 : T2 = s.n :: T3 := by rw [HTT.out, ← hT3]; rfl
                      have H6 := H5.out
                      rw [hT2] at H6
                      obtain ⟨b9, o9, rfl, -, hc9, hb9, hx9, -, hk1, hk2⟩ := H6.rdCons 0 rfl
                      have HT3 : Hid (T3 = gotG L (R.drop (j + 1)) (j + 1)) := Lib.hid hT3.symm
                      have HL2 : Hid (T2.length - 1 = T3.length) := Lib.hid (by rw [hT2]; simp)
                      have hpos : 0 < T2.length := by rw [hT2]; simp
                      have hc2 : T2.length ≤ c2 := by rw [hT2]; exact hc9
                      have HK1 : Hid (c2 = 1 → T3 = [] ∧ OSt w [rdOb (.slice (some ⟨b9, o9, none⟩) 0 0) [], sdOb (.slice (some ⟨b7, 0, none⟩) R.length co) R.length (upS L j R), lkOb g L] w5) := Lib.hid hk1
                      have HK2 : Hid (1 < c2 → OSt w [rdOb (.slice (some ⟨b9, o9 + 1, none⟩) T3.length (c2 - 1)) T3, sdOb (.slice (some ⟨b7, 0, none⟩) R.length co) R.length (upS L j R), lkOb g L] w5) := Lib.hid hk2
                      have hzz : ((T2.length : Int) == 0) = false := by rw [beq_eq_false_iff_ne]; omega
                      have e0 := fun (ψ : World → Prop) (e : ExtP w5.heap.size w5 ψ) => e.cell hx9 hb9
                      have e1 := fun (ψ : World → Prop) (e : ExtP w5.heap.size w5 ψ) => e.cell y0' ybl5
                      clear hT3 hT2 HTT hc9 hk1 hk2 hj0 hsh H6 hx9 y0'
                      obtain ⟨jb, hjb⟩ : ∃ jb, ((j : Int) == 0) = jb := ⟨_, rfl⟩
                      cases jb
                      all_goals
                        go_wp2
                        refine wp_region_pieces 14  [(true, [0, 1, 2, 3, 4, 5, 6, 7, 8, 9, 10, 11, 12, 13])] (by kernel_rfl) (by kernel_rfl) ?_; simp only [pick, List.map_cons, List.map_nil, List.flatMap_cons, List.flatMap_nil, Option.toList_some, List.singleton_append, List.drop_succ_cons, List.drop_zero, List.getElem?_cons_zero, List.getElem?_cons_succ]
                        refine ⟨by kernel_rfl, ?_⟩; apply Exists.intro; refine ⟨fun ψ hψ hne => (by (repeat (go_big_quiet_step (( fail )))); exact wpQuiet_nil rfl), ?_⟩
                        intro w6 h6
                        clear e0 e1
                        obtain ⟨ybl6, -, ybj6, ybf6⟩ := own_flat ((H5.out.ext h6).own 1 rfl) sdC_length (upS_length L j R) HY.out
                        have f2' := ybf6 (j * 3 + 2)
                        have y2 := ybj6 2 (by omega)
                        simp only [sdC, List.getElem?_cons_zero, List.getElem?_cons_succ] at y2
                        rw [HShe.out] at y2
                        clear f2 ybf6 ybj6 y2' ybl5
                        by_cases hc1 : c2 = 1
                        · have hk := HK1.out hc1
                          have HE := Lib.hid (HSt.out _ _ (hk.2.ext h6))
                          have HT4 : Hid ([] = gotG L (R.drop (j + 1)) (j + 1)) := Lib.hid (by rw [← HT3.out]; exact hk.1.symm)
                          have HL3 : Hid (T2.length - 1 = 0) := Lib.hid (by rw [HL2.out, hk.1]; rfl)
                          clear hk HK1 HK2 HT3 HL2 HSt H5 h6 hjb
                          subst hc1
                          go_wp2
                          go_roundg (R.length - (j + 1))
                          case measure => omega
                          case rel => exact ⟨j + 1, [], some ⟨b9, o9, none⟩, 0, by omega, by omega, by go_num, rfl, HT4, HE⟩
                        · have hk := HK2.out (by omega)
                          have HE := Lib.hid (HSt.out _ _ (hk.ext h6))
                          clear hk HK1 HK2 HSt H5 h6 hjb
                          go_wp2
                          go_roundg (R.length - (j + 1))
                          case measure => omega
                          case rel => exact ⟨j + 1, T3, some ⟨b9, o9 + 1, none⟩, c2 - 1, by omega, by omega, by go_num, by rw [HL2.out], HT3, HE⟩
            · obtain rfl : j = R.length := by omega
              have hT0 : T2 = [] := by rw [HT.out, List.drop_of_length_le (Nat.le_refl _)]; rfl
              subst hT0
              have hLR : (L.map (·.1)).length = R.length := by rw [← HM.out.l]; simp [lkS]
              have KR := rowO 2 HS.out rfl
              rw [hLR] at KR
              have KR := Lib.hid KR
              have HIn := Lib.hid (SIn.of_up HM.out)
              have HS' := HS
              clear hLR HT
              go_wp2_with fail
              refine KR.out.mono ?_
              rintro e w9 ⟨v9, rfl, h9, x9⟩
              obtain ⟨A9, c9, rfl⟩ := h9.form
              have H9 := Lib.hid (HS'.out.ext x9)
              clear h9 x9 KR HS HS'
              go_wp2
              go_roundg (l.length - (k + 1))
              case measure => omega
              case rel =>
                refine ⟨k + 1, L, upS L R.length R, by omega, by omega, by go_num, by rw [upS_length]; omega, ?_, HIn, Lib.hid fun s hs => ?_⟩
                · rw [upS_length]
                  exact Lib.hid (H9.out.dropI 0)
                · obtain ⟨t, ht, e1, e2⟩ := upS_mem hs
                  rw [e1, e2]
                  exact HRL.out t ht
      · obtain rfl : k = l.length := by omega
        go_wp2
        go_ret
        exact ⟨rfl, H.out.bel⟩
theorem own : ownKnob Try.prog.godebug = none := by kernel_rfl
theorem laidOut : laidOutB Try.prog = true := by kernel_rfl

set_option maxRecDepth 100000 in
theorem lifted (os : Os) (started : os.Started) (H : Type) (enc : TypeId × Value → H) :
    ReturnsInHanded {} Try.checked os 3 .any (Rows.locksFairSpec.pre6 enc Try.prog Try.f3 Rows.locksFairRow.domain false) (Rows.locksFairSpec.post enc Try.prog Try.f3 false true false false) := by
  refine returnsInHanded_of_change (C := Try.checked) own started (by kernel_rfl) Try.func3
    (ChangeSpec.witness6 (enc := enc) (C := Try.checked) false ⟨#[], #[.slice none 0 0], []⟩ 8 (by kernel_rfl) (by kernel_rfl) (by kernel_rfl) (by kernel_rfl)) ?_
  intro W base args ds gs before hval0 hW hcnd _
  have hval : ∀ (j : Nat) t v, Try.f3.params[j]? = some t → args[j]? = some v → Value.okWide Try.prog W .any base t v := hval0
  have hW' := hW
  obtain ⟨p, q, hA0, hV, rfl, hfz, hnd⟩ := hW
  have hA : DataW.TrodAll enc Try.prog W 0 (fun _ => true) true Try.f3.params.toList args.toList ds p := hA0
  rw [Try.params3] at hA hval
  obtain ⟨v0, vs0, d0, ds0, p0, q0, hargs, rfl, rfl, h0, r0⟩ := trodAll_cons hA
  obtain ⟨rfl, rfl, rfl⟩ := trodAll_nil r0
  obtain rfl : args = #[v0] := by cases args; simp_all
  obtain ⟨rfl, rfl⟩ := trodVars_none hV
  have k0 := h0
  have lt0 : ∀ x ∈ p0, x.block < W.heap.size := by obtain ⟨m, hm⟩ := k0; exact DataW.trod_lt m _ _ _ hm
  obtain ⟨x0, rfl, w0⟩ := open_Wops (hval 0 _ v0 rfl rfl) h0
  refine (walk (w := W) x0 w0).mono fun e W' ⟨he, bel⟩ => ?_
  subst he
  exact ⟨_, rfl, _, _, _, [], _, [], hW', trodAll_mk1 (shut_bool Try.underlying4 _), (trodAll_cons_mk (Below.trod laidOut (by kernel_rfl) (of_decide_eq_true (by kernel_rfl)) k0 bel lt0) trodAll_mk0), rfl, bel.frame _, fun h => by cases h⟩

theorem proved : Rows.LocksFairSaid :=
  OpenClaim.holds_of_wide 3 Try.f3 rfl rfl rfl rfl rfl rfl rfl ⟨rfl, rfl, rfl, rfl, rfl⟩ rfl rfl rfl rfl rfl (by kernel_rfl) Try.func3 (by kernel_rfl)
    (of_decide_eq_true (by kernel_rfl)) (by unfold Func.isWrapper; first | (rw [if_pos (by decide +kernel)]; kernel_rfl) | (rw [if_neg (by decide +kernel)]; exact ⟨rfl, rfl⟩))
    (fun os started H enc _ => lifted os started H enc)
end Go.Proofs.Ytiihlbaajopllaa.locksFair
