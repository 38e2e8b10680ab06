/- Proved: TasksEnd returns true, whatever it is handed. -/
import Derived.Test.YtiihlbaajopllaaMg
import Derived.Test.YtiihlbaajopllaaLift
set_option linter.unusedVariables false
set_option maxRecDepth 100000
namespace Go.Proofs.Ytiihlbaajopllaa.tasksEnd
open Go.RowKit Go.ChangeShapes Go.WideShapes Go.ChangeAt Go.Deep Go.Proofs.Ytiihlbaajopllaa

theorem addE_cnt (T : TK) (n : Int) (l : List Wn) : (T.add n l).cnt ≤ T.cnt + 1 := by
  unfold TK.add
  split
  · exact Int.le_refl _
  · omega
abbrev awOb (v : Value) (n : Nat) (A : List Aw) : Ob Zf := ownOb 73 (by decide) 4 v n (A.flatMap awC)
set_option maxHeartbeats 8000000 in
theorem walk {w : World} (st : StsT) (hs : st.Ok w) (pk : IntsE) (hpk : pk.Ok w) :
    Calls Try.prog 7 #[st.v, pk.v] w fun e w' => e = .returned (.bool true) ∧ Below w.heap.size w w' := by
  obtain ⟨v, l⟩ := st
  obtain ⟨hr, he, hll⟩ := hs
  obtain ⟨vb, ps⟩ := pk
  obtain ⟨hb, hbl, hbw⟩ := hpk
  simp only at hr he hll hb hbl hbw ⊢
  have K1 := Lib.hid (works_any w)
  have K2 := Lib.hid fun w' (hx : Ext w w') => large_any l w' (hr.ext hx) (fun x hx' => by have := he x hx'; exact ⟨this.r.ext hx, this.ll, this.k, this.t, this.n⟩) hll
  have HR := Lib.hid hr
  have HE := Lib.hid he
  have HB := Lib.hid hb
  have HBW := Lib.hid hbw
  obtain ⟨A, c, rfl⟩ := hr.form
  obtain ⟨A2, c2, rfl⟩ := hb.form
  unfold maxLen at hll hbl
  clear hr he hb hbw
  go_enter Try.func7, Try.ntmps7
  go_wp2_with fail
  refine K1.out.mono ?_
  rintro e w1 ⟨rfl, h1⟩
  go_wp2_with fail
  refine (K2.out w1 h1).mono ?_
  rintro e w2 ⟨B, rfl, hB, h2⟩
  have h2' : Ext w w2 := Ext.trans h1 h2
  cases B with
  | true =>
    go_wp2_with fail
    refine (works_any w2).mono ?_
    rintro e w3 ⟨rfl, h3⟩
    have F := Lib.hid (Ext.trans h2' h3)
    clear h1 h2 h2' h3 K1 K2 HR HE HB hB
    go_wp2
    go_ret
    exact ⟨rfl, F.out⟩
  | false =>
    obtain ⟨hl1, hl2⟩ := hB rfl
    have HL2 := Lib.hid hl2
    clear hB hl2 K1 K2 h1 h2
    by_cases h200 : 200 < ps.length
    · have h200' : (200 : Int) < (ps.length : Int) := by omega
      go_wp2_with fail
      refine (works_any w2).mono ?_
      rintro e w3 ⟨rfl, h3⟩
      have F := Lib.hid (Ext.trans h2' h3)
      clear h2' h3 HR HE HB
      go_wp2
      go_ret
      exact ⟨rfl, F.out⟩
    have h200' : (ps.length : Int) ≤ 200 := by omega
    have H0 : Hid (OSt (Z := Zf) w [] w2) := Lib.hid ((OSt.start w).ext h2')
    clear h2'
    go_wp2_with fail
    refine (tnewO H0.out).mono ?_
    rintro e w3 ⟨g, rfl, h3⟩
    have H3 : Hid (OSt w [awOb (.slice none 0 0) 0 [], tkOb g T0] w3) := Lib.hid (h3.ownNil 73 (by decide) 4)
    clear h3 H0
    go_wp2
    go_loopg [6, 7] l.length (fun gg u s wr => ∃ (k : Nat) (T : TK) (L : List Aw), k ≤ l.length ∧ l.length - k ≤ gg ∧ s = .int .i64 k ∧ L.length ≤ k ∧ Hid (OSt w [awOb u L.length L, tkOb g T] wr) ∧ Hid (T.cnt ≤ k) ∧ Hid (∀ a ∈ L, a.st = 0) ∧ Hid (T.L = toL L) ∧ Hid (∀ a ∈ L, RWn w a.v a.l ∧ a.l.length ≤ 20))
    case atStart => exact ⟨0, T0, [], Nat.zero_le _, by omega, rfl, Nat.le_refl _, H3, Lib.hid (Int.le_refl _), Lib.hid (by simp), Lib.hid rfl, Lib.hid (by simp)⟩
    case round =>
      obtain ⟨k, T, L, hk, hg, rfl, hLk, H, HC, HZ, HT, HRL⟩ := hrel
      obtain ⟨Ao, co, rfl⟩ := (H.out.own 0 rfl).form
      by_cases hlt : k < l.length
      · obtain ⟨b, off, rfl, hba, hca, -⟩ := (HR.out.ext H.out.bel).at (by omega)
        obtain ⟨x, hx⟩ : ∃ x, l[k]? = some x := ⟨_, List.getElem?_eq_getElem hlt⟩
        have hok := HE.out x (List.mem_of_getElem? hx)
        have hx20 := HL2.out x (List.mem_of_getElem? hx)
        obtain ⟨Av, cw, hwv⟩ := hok.r.form
        obtain ⟨-, x1, -, -, x4⟩ := RSt.st (HR.out.ext H.out.bel) hx
        rw [hwv] at x4
        obtain ⟨t0, t1⟩ := i64_wf hok.t
        have hrw := hok.r
        rw [hwv] at hrw
        have HW := Lib.hid hrw
        have HX := Lib.hid hx
        have HWV := Lib.hid hwv
        have G := Lib.hid fun w' (hx : Ext wr w') => given19_any x.l w' (hrw.ext (Ext.trans H.out.bel hx)) (by omega)
        clear hx hok hwv hrw
        go_wp2
        have e0 := fun (ψ : World → Prop) (e : ExtP wr.heap.size wr ψ) => e.cell x1 hba
        have e1 := fun (ψ : World → Prop) (e : ExtP wr.heap.size wr ψ) => e.cell x4 hba
        clear x1 x4
        refine wp_region_pieces 12  [(true, [0, 1, 2, 3, 4, 5, 6, 7, 8, 9, 10]), (false, [11])] (by kernel_rfl) (by kernel_rfl) ?_; simp only [pick, List.map_cons, List.map_nil, List.flatMap_cons, List.flatMap_nil, Option.toList_some, List.singleton_append, List.drop_succ_cons, List.drop_zero, List.getElem?_cons_zero, List.getElem?_cons_succ]
        refine ⟨by kernel_rfl, ?_⟩; apply Exists.intro; refine ⟨fun ψ hψ hne => (by (repeat (go_big_quiet_step (( fail )))); exact wpQuiet_nil rfl), ?_⟩
        intro W0 h0 K hK
        clear e0 e1
        go_wp2_with (go_at_call 28; refine (G.out W0 h0).mono ?_; rintro e W1 ⟨v1, rfl, ho1, h1⟩)
        refine hK _ _ h1 ?_
        clear hK K
        intro W2 h2
        have HN := Lib.hid (((H.out.ext h0).ext h1).ext h2)
        have hv2 := (ho1.ext h2).rr (by omega)
        have hcn := HC.out
        obtain ⟨e6, he6⟩ : ∃ e, T.addE x.t x.l = e := ⟨_, rfl⟩
        have KA := Lib.hid (taddO 1 HN.out rfl x.t x.l hv2 (by omega) t0 t1 (by omega) e6 he6 rfl)
        have HE6 := Lib.hid he6
        clear h0 h1 h2 hv2 ho1 H G he6
        go_wp2_with fail
        refine KA.out.mono ?_
        rintro e w6 ⟨rfl, h6⟩
        have H6 : Hid (OSt w [awOb (.slice Ao L.length co) L.length L, tkOb g (T.add x.t x.l)] w6) := Lib.hid h6
        have HC6 : Hid ((T.add x.t x.l).cnt ≤ ((k + 1 : Nat) : Int)) := Lib.hid (by have := addE_cnt T x.t x.l; omega)
        have HI6 := Lib.hid (inv_add HZ.out HT.out x.t x.wv x.l x.b)
        clear h6 HN KA HC hcn
        by_cases hz6 : e6 = 0
        · subst hz6
          have HT6 := Lib.hid (HI6.out.1 HE6.out)
          obtain ⟨-, y1, -, y3, y4⟩ := RSt.st (HR.out.ext H6.out.bel) HX.out
          rw [HWV.out] at y4
          have hba6 : b < w6.heap.size := by
            obtain ⟨b', off', hA, hb', -⟩ := (HR.out.ext H6.out.bel).at (by omega)
            cases hA
            exact hb'
          have e0 := fun (ψ : World → Prop) (e : ExtP w6.heap.size w6 ψ) => e.cell y1 hba6
          have e1 := fun (ψ : World → Prop) (e : ExtP w6.heap.size w6 ψ) => e.cell y4 hba6
          have e2 := fun (ψ : World → Prop) (e : ExtP w6.heap.size w6 ψ) => e.cell y3 hba6
          clear y1 y3 y4
          go_wp2
          refine wp_region_pieces 18  [(true, [0, 1, 2, 3, 4, 5, 6, 7, 8, 9, 10, 11, 12, 13, 14, 15, 16]), (false, [17])] (by kernel_rfl) (by kernel_rfl) ?_; simp only [pick, List.map_cons, List.map_nil, List.flatMap_cons, List.flatMap_nil, Option.toList_some, List.singleton_append, List.drop_succ_cons, List.drop_zero, List.getElem?_cons_zero, List.getElem?_cons_succ]
          refine ⟨by kernel_rfl, ?_⟩; apply Exists.intro; refine ⟨fun ψ hψ hne => (by (repeat (go_big_quiet_step (( fail )))); exact wpQuiet_nil rfl), ?_⟩
          intro W3 h3 K hK
          clear e0 e1 e2
          go_wp2_with fail
          refine hK _ _ (extAl _ _) ?_
          intro W4 h4
          have hgn : W4.heap[W3.heap.size]? = some (.cells (awC ⟨x.t, x.wv, x.l, 0, x.b, T.cnt + 1⟩).toArray 73 (0, 0)) := by
            have := Ext.blk h4 (heap_alloc_last W3 (.cells #[.int .i64 x.t, .slice Av x.l.length cw, .int .i64 0, .bool x.b] 73))
            rw [this, ← HWV.out]
            rfl
          have h8 := (((H6.out.ext h3).ext (extAl W3 (.cells #[.int .i64 x.t, .slice Av x.l.length cw, .int .i64 0, .bool x.b] 73))).ext h4)
          obtain ⟨v', W5, hr5, h5⟩ := h8.appAw 0 rfl ⟨x.t, x.wv, x.l, 0, x.b, T.cnt + 1⟩ (by rw [HWV.out]; rfl) (by omega) hgn
          have Hr := Lib.hid hr5
          have H7 : Hid (OSt w [awOb v' (L ++ [Aw.mk x.t x.wv x.l 0 x.b (T.cnt + 1)]).length (L ++ [Aw.mk x.t x.wv x.l 0 x.b (T.cnt + 1)]), tkOb g (T.add x.t x.l)] W5) := Lib.hid (by
            rw [List.length_append]
            unfold awOb
            rw [List.flatMap_append, List.flatMap_cons, List.flatMap_nil, List.append_nil]
            exact h5)
          clear h8 hgn h3 h4 hr5 h5 H6 hK
          go_wp2_with (refine wpList_app rfl (.tmp 46) (.tmp 63) 71 71 rfl Hr.out ?_; simp only [Act.put])
          go_roundg (l.length - (k + 1))
          case measure => omega
          case rel =>
            refine ⟨k + 1, T.add x.t x.l, L ++ [Aw.mk x.t x.wv x.l 0 x.b (T.cnt + 1)], by omega, by omega, by go_num, by rw [List.length_append]; simp; exact hLk, H7, HC6, Lib.hid fun a ha => ?_, HT6, Lib.hid fun a ha => ?_⟩
            · rcases List.mem_append.1 ha with h | h
              · exact HZ.out a h
              · obtain rfl := List.mem_singleton.1 h
                rfl
            · rcases List.mem_append.1 ha with h | h
              · exact HRL.out a h
              · obtain rfl := List.mem_singleton.1 h
                refine ⟨?_, hx20⟩
                rw [HWV.out]
                exact HW.out
        · have HT6 : Hid (T.add x.t x.l = T) := Lib.hid (HI6.out.2 (by rw [HE6.out]; exact hz6))
          have hz6' : (e6 == 0) = false := by rw [beq_eq_false_iff_ne]; exact hz6
          rw [HT6.out] at H6 HC6
          go_wp2
          go_roundg (l.length - (k + 1))
          case measure => omega
          case rel => exact ⟨k + 1, T, L, by omega, by omega, by go_num, by omega, H6, HC6, HZ, HT, HRL⟩
      · obtain rfl : k = l.length := by omega
        have HOK : Hid T.Ok := Lib.hid (by obtain ⟨S, h1, _⟩ := H.out.pick (i := 1) rfl; exact h1.2)
        obtain ⟨hA0, h16, hmu⟩ := inv_start HOK.out HZ.out HT.out
        have HA := Lib.hid hA0
        obtain ⟨n, hn⟩ : ∃ n, n = L.length := ⟨_, rfl⟩
        have HN := Lib.hid hn
        rw [← hn] at H h16 hLk hmu ⊢
        have HMU := Lib.hid hmu
        clear HOK hA0 hmu hn HC HZ HT HL2 HE HR
        go_wp2
        go_loopg [9] (3 * n) (fun gg s wr => ∃ (i : Nat) (T : TK) (L : List Aw), i + muA L ≤ 3 * n ∧ 3 * n - i ≤ gg ∧ s = .int .i64 i ∧ Hid (OSt w [awOb (.slice Ao n co) n L, tkOb g T] wr) ∧ Hid (AInv L T) ∧ Hid (L.length = n) ∧ Hid (∀ a ∈ L, RWn w a.v a.l ∧ a.l.length ≤ 20))
        case atStart => exact ⟨0, T, L, by rw [HMU.out]; omega, by omega, rfl, H, HA, Lib.hid HN.out.symm, HRL⟩
        case round =>
          clear H HA HN HRL HMU hLk T L
          obtain ⟨i, T, L, hi, hg, rfl, H, HA, HN, HRL⟩ := hrel
          have HOK : Hid T.Ok := Lib.hid (by obtain ⟨S, h1, _⟩ := H.out.pick (i := 1) rfl; exact h1.2)
          have hTl := HOK.out.len
          by_cases hL : T.L = []
          · have hL0 : (T.L.map (·.p.1)).length = 0 := by rw [hL]; rfl
            have KR := trowO 1 H.out rfl _ rfl
            rw [hL0] at KR
            have KR := Lib.hid KR
            have HAL : Hid (∀ a ∈ L, isC a = 2) := Lib.hid (end_all (by rw [← HA.out.L]; exact hL))
            clear hL hL0 hTl
            go_wp2_with fail
            refine KR.out.mono ?_
            rintro e w4 ⟨v4, rfl, ho4, hx4⟩
            obtain ⟨A4, c4, rfl⟩ := ho4.form
            have H4 := Lib.hid (H.out.ext hx4)
            clear ho4 hx4 KR
            go_wp2
            go_loopg [12] n (fun gg s wr => ∃ m : Nat, m ≤ n ∧ n - m ≤ gg ∧ s = .int .i64 m ∧ Hid (Ext w4 wr))
            case atStart => exact ⟨0, Nat.zero_le _, by omega, rfl, Lib.hid (Ext.refl _)⟩
            case round =>
              obtain ⟨m, hm, hg3, rfl, HW⟩ := hrel
              have H5 := Lib.hid (H4.out.ext HW.out)
              by_cases hlt2 : m < n
              · obtain ⟨y, hy⟩ : ∃ y, L[m]? = some y := ⟨_, List.getElem?_eq_getElem (by have := HN.out; omega)⟩
                have ho := H5.out.own 0 rfl
                obtain ⟨b7, rfl, -⟩ := ho.cells (by omega)
                obtain ⟨hbl, hbc, hbj, -⟩ := own_flat ho awC_length HN.out hy
                have hbc := hbc (by omega)
                have y2 := hbj 2 (by omega)
                simp only [awC, List.getElem?_cons_zero, List.getElem?_cons_succ] at y2
                rw [HAL.out y (List.mem_of_getElem? hy)] at y2
                clear hy ho hbj
                go_wp2
                go_roundg (n - (m + 1))
                case measure => omega
                case rel => exact ⟨m + 1, by omega, by omega, by go_num, HW⟩
              · obtain rfl : m = n := by omega
                go_wp2
                go_ret
                exact ⟨rfl, H5.out.bel⟩
          · have hL0 : 0 < (T.L.map (·.p.1)).length := by rw [List.length_map]; exact List.length_pos_iff.2 hL
            have hL1 : (0 : Int) < ((T.L.map (·.p.1)).length : Int) := by omega
            have KR := Lib.hid (trowO 1 H.out rfl _ rfl)
            have hmu : 0 < muA L := muA_pos HA.out.ok (by rw [← HA.out.L]; exact hL)
            have HCN : Hid (canT T ≠ []) := Lib.hid (can_some HOK.out hL)
            have hcl : 0 < (canT T).length := List.length_pos_iff.2 HCN.out
            have hcl' : (0 : Int) < ((canT T).length : Int) := by omega
            have hcz : (((canT T).length : Int) == 0) = false := by rw [beq_eq_false_iff_ne]; omega
            generalize (T.L.map (·.p.1)) = rl at *
            clear hL hTl
            go_wp2_with fail
            refine KR.out.mono ?_
            rintro e w4 ⟨v4, rfl, ho4, hx4⟩
            obtain ⟨A4, c4, rfl⟩ := ho4.form
            have H4 := Lib.hid (H.out.ext hx4)
            clear ho4 hx4 KR H
            have hi3 : (i : Int) < 3 * (n : Int) := by omega
            go_wp2_with fail
            refine (tcanO 1 H4.out rfl _ rfl).mono ?_
            rintro e w5 ⟨v5, rfl, ho5, hx5⟩
            obtain ⟨A5, c5, rfl⟩ := ho5.form
            have H5 := Lib.hid (H4.out.ext hx5)
            clear ho5 hx5 H4
            go_wp2_with fail
            refine (turnO (k := i) 1 H5.out rfl HCN.out (HB.out.ext H5.out.bel) HBW.out).mono ?_
            rintro e w6 ⟨x, last, hx, rfl, h6⟩
            have H6 : Hid (OSt w [awOb (.slice Ao n co) n L, tkOb g { T with last := last }] (w6.alloc (.cells #[.int .i64 x.1, .int .u8 x.2] 64))) := Lib.hid (h6.ext (extAl _ _))
            have HR8 := Lib.hid (heap_alloc_last w6 (.cells #[.int .i64 x.1, .int .u8 x.2] 64))
            have HX : Hid (x ∈ canT { T with last := last }) := Lib.hid hx
            have HA6 : Hid (AInv L { T with last := last }) := Lib.hid ⟨HA.out.L, HA.out.nd, HA.out.ok⟩
            clear h6 hx H5 HCN hcl hcl' hcz HOK HA
            go_wp2_with fail
            refine (afterO x H6.out HA6.out HN.out h16 HX.out HRL.out).mono ?_
            rintro e w7 ⟨L', T', rfl, h7, hA7, hn7, hm7, hr7⟩
            have H7 := Lib.hid h7
            have HA7 := Lib.hid hA7
            have HN7 := Lib.hid hn7
            have HR7 := Lib.hid hr7
            clear h7 hA7 hn7 hr7 H6 HA6 HN HX HRL HR8
            go_wp2
            go_roundg (3 * n - (i + 1))
            case measure => omega
            case rel => exact ⟨i + 1, T', L', by omega, by omega, by go_num, H7, HA7, HN7, HR7⟩
theorem own : ownKnob Try.prog.godebug = none := by kernel_rfl
theorem laidOut : laidOutB Try.prog = true := by kernel_rfl

set_option maxRecDepth 100000 in
theorem lifted (os : Os) (started : os.Started) (H : Type) (enc : TypeId × Value → H) :
    ReturnsInHanded {} Try.checked os 7 .any (Rows.tasksEndSpec.pre6 enc Try.prog Try.f7 Rows.tasksEndRow.domain false) (Rows.tasksEndSpec.post enc Try.prog Try.f7 false true false false) := by
  refine returnsInHanded_of_change (C := Try.checked) own started (by kernel_rfl) Try.func7
    (ChangeSpec.witness6 (enc := enc) (C := Try.checked) false ⟨#[], #[.slice none 0 0, .slice none 0 0], []⟩ 8 (by kernel_rfl) (by kernel_rfl) (by kernel_rfl) (by kernel_rfl)) ?_
  intro W base args ds gs before hval0 hW hcnd _
  have hval : ∀ (j : Nat) t v, Try.f7.params[j]? = some t → args[j]? = some v → Value.okWide Try.prog W .any base t v := hval0
  have hW' := hW
  obtain ⟨p, q, hA0, hV, rfl, hfz, hnd⟩ := hW
  have hA : DataW.TrodAll enc Try.prog W 0 (fun _ => true) true Try.f7.params.toList args.toList ds p := hA0
  rw [Try.params7] at hA hval
  obtain ⟨v0, vs0, d0, ds0, p0, q0, hargs, rfl, rfl, h0, r0⟩ := trodAll_cons hA
  obtain ⟨v1, vs1, d1, ds1, p1, q1, rfl, rfl, rfl, h1, r1⟩ := trodAll_cons r0
  obtain ⟨rfl, rfl, rfl⟩ := trodAll_nil r1
  obtain rfl : args = #[v0, v1] := by cases args; simp_all
  obtain ⟨rfl, rfl⟩ := trodVars_none hV
  have k0 := h0
  have lt0 : ∀ x ∈ p0, x.block < W.heap.size := by obtain ⟨m, hm⟩ := k0; exact DataW.trod_lt m _ _ _ hm
  have k1 := h1
  have lt1 : ∀ x ∈ p1, x.block < W.heap.size := by obtain ⟨m, hm⟩ := k1; exact DataW.trod_lt m _ _ _ hm
  obtain ⟨x0, rfl, w0⟩ := open_Wsteps (hval 0 _ v0 rfl rfl) h0
  obtain ⟨x1, rfl, w1⟩ := open_Wints (hval 1 _ v1 rfl rfl) h1
  refine (walk (w := W) x0 w0 x1 w1).mono fun e W' ⟨he, bel⟩ => ?_
  subst he
  exact ⟨_, rfl, _, _, _, [], _, [], hW', trodAll_mk1 (shut_bool Try.underlying4 _), (trodAll_cons_mk (Below.trod laidOut (by kernel_rfl) (of_decide_eq_true (by kernel_rfl)) k0 bel lt0) (trodAll_cons_mk (Below.trod laidOut (by kernel_rfl) (of_decide_eq_true (by kernel_rfl)) k1 bel lt1) trodAll_mk0)), rfl, bel.frame _, fun h => by cases h⟩

theorem proved : Rows.TasksEndSaid :=
  OpenClaim.holds_of_wide 7 Try.f7 rfl rfl rfl rfl rfl rfl rfl ⟨rfl, rfl, rfl, rfl, rfl⟩ rfl rfl rfl rfl rfl (by kernel_rfl) Try.func7 (by kernel_rfl)
    (of_decide_eq_true (by kernel_rfl)) (by unfold Func.isWrapper; first | (rw [if_pos (by decide +kernel)]; kernel_rfl) | (rw [if_neg (by decide +kernel)]; exact ⟨rfl, rfl⟩))
    (fun os started H enc _ => lifted os started H enc)
end Go.Proofs.Ytiihlbaajopllaa.tasksEnd
