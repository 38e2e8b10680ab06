/- Proved: TasksPlay returns true, whatever it is handed. -/
import Derived.Test.YtiihlbaajopllaaMh
import Derived.Test.YtiihlbaajopllaaLift
set_option linter.unusedVariables false
set_option maxRecDepth 100000
namespace Go.Proofs.Ytiihlbaajopllaa.tasksPlay
open Go.RowKit Go.ChangeShapes Go.WideShapes Go.ChangeAt Go.Deep Go.Proofs.Ytiihlbaajopllaa

theorem swap2 {Z : Obj → Prop} {W w : World} {a b : Ob Z} {l : List (Ob Z)} (h : OSt W (a :: b :: l) w) : OSt W (b :: a :: l) w := by
  obtain ⟨hb, S1, h1, h2, S2, h3, h4, h5⟩ := h
  refine ⟨hb, S2, h3, fun k hk => ⟨fun hl => (h4 k hk).1 (.inl hl), (h4 k hk).2⟩, S1, h1, fun k hk => ⟨fun hl => hl.elim (h2 k hk).1 fun h => (h4 k h).1 (.inr hk), (h2 k hk).2⟩, h5.mono fun k hk => .inl ?_⟩
  rcases hk with (h | h) | h
  · exact .inl (.inl h)
  · exact .inr h
  · exact .inl (.inr h)
theorem one_any {W w : World} {g g' : Nat} {T : TK} (h : OSt W [tkOb g T, ktOb g' T] w) (x : StE) (hx : x.Ok W) (hl : x.l.length ≤ 20) (hc : T.cnt ≤ 1000) :
    Calls Try.prog 46 #[.pointer (some ⟨g, 0, none⟩), .pointer (some ⟨g', 0, none⟩), .agg #[.int .u8 x.k, .int .i64 x.t, .int .i64 x.n, .bool x.b, x.wv]] w (OneP W g g' T) := by
  by_cases k0 : x.k = 0
  · exact one_add h x hx hl hc k0
  by_cases k1 : x.k = 1
  · exact one_pick h x hx hl k1
  by_cases k2 : x.k = 2
  · exact one_next h x hx hl k2
  by_cases k3 : x.k = 3
  · exact one_did h x hx hl k3
  by_cases k4 : x.k = 4
  · exact one_sync h x hx hl k4
  by_cases k5 : x.k = 5
  · exact one_repl h x hx hl k5
  by_cases k6 : x.k = 6
  · exact one_clear h x hx hl k6
  by_cases k8 : x.k = 8
  · exact one_nexts h x hx hl k8
  by_cases k9 : x.k = 9
  · exact one_picks h x hx hl k9
  exact one_other h x hx hl ⟨k0, k1, k2, k3, k4, k5, k6, k8, k9⟩
set_option maxHeartbeats 16000000 in
theorem walk {w : World} (x : StsT) (hx : x.Ok w) : Calls Try.prog 9 #[x.v] w fun e w' => e = .returned (.bool true) ∧ Below w.heap.size w w' := by
  obtain ⟨v, l⟩ := x
  have hr := hx.r
  have he := hx.e
  have hlen := hx.len
  clear hx
  simp only at hr he hlen ⊢
  obtain ⟨A, c, rfl⟩ := hr.form
  have KL := Lib.hid (large_any l w hr he hlen)
  have HR := Lib.hid hr
  have HE := Lib.hid he
  unfold maxLen at hlen
  clear hr he
  go_enter Try.func9, Try.ntmps9
  go_wp2_with fail
  refine KL.out.mono ?_
  rintro e w1 ⟨B, rfl, hB, h1⟩
  cases B with
  | true =>
    have F := Lib.hid h1
    clear hB h1
    go_wp2
    go_ret
    exact ⟨rfl, F.out⟩
  | false =>
    obtain ⟨h150, h20⟩ := hB rfl
    have H20 := Lib.hid h20
    have H1 : Hid (OSt (Z := Zf) w [] w1) := Lib.hid ((OSt.start w).ext h1)
    clear hB h1 h20 KL
    go_wp2_with fail
    refine (tnewO H1.out).mono ?_
    rintro e w2 ⟨g, rfl, h2⟩
    have H2 := Lib.hid h2
    clear h2
    go_wp2_with (go_at_call 45; refine (knewO H2.out).mono ?_; rintro e w3 ⟨g', rfl, h3⟩; have H3 := Lib.hid (swap2 h3); clear h3)
    go_loopg [3, 5] l.length (fun gg u s wr => ∃ (k g : Nat) (T : TK), k ≤ l.length ∧ l.length - k ≤ gg ∧ s = .int .i64 k ∧ u = .pointer (some ⟨g, 0, none⟩) ∧ T.cnt ≤ k ∧ Hid (OSt w [tkOb g T, ktOb g' T] wr))
    case atStart => exact ⟨0, g, T0, Nat.zero_le _, by omega, rfl, rfl, Int.le_refl _, H3⟩
    case round =>
      clear H1 H2 H3
      obtain ⟨k, g, T, hk, hg, rfl, rfl, hc, H⟩ := hrel
      by_cases hlt : k < l.length
      · as_aux_lemma =>
        obtain ⟨b, off, rfl, hba, hca, -⟩ := (HR.out.ext H.out.bel).at (by omega)
        obtain ⟨x, hx⟩ : ∃ x, l[k]? = some x := ⟨_, List.getElem?_eq_getElem hlt⟩
        have hok := HE.out x (List.mem_of_getElem? hx)
        have hx20 := H20.out x (List.mem_of_getElem? hx)
        obtain ⟨Av, cw, hwv⟩ := hok.r.form
        obtain ⟨x0, x1, x2, x3, x4⟩ := RSt.st (HR.out.ext H.out.bel) hx
        have KO := Lib.hid (one_any H.out x hok hx20 (by omega))
        rw [hwv] at x4 KO
        have HX := Lib.hid hx
        have cnt := hok.k
        clear hx hok hwv
        go_wp2_with fail
        refine KO.out.mono ?_
        rintro e w4 ⟨T1, rfl, h4, hc4⟩
        have H4 := Lib.hid h4
        clear h4 KO x1 x2 x3 x4 x0 cnt H
        have hokC := H4.out.tok 0 rfl
        have hclC := canT_len hokC
        have HCL := Lib.hid hclC
        have KC := Lib.hid (tcanO 0 H4.out rfl _ rfl)
        clear hokC hclC
        go_wp2_with fail
        refine KC.out.mono ?_
        rintro e wa ⟨va, rfl, oa, xa⟩
        have HA := Lib.hid (H4.out.ext xa)
        have OA := Lib.hid oa
        obtain ⟨Aa, ca, rfl⟩ := oa.form
        have KD := Lib.hid (kcanO 1 HA.out rfl)
        clear oa xa KC
        go_wp2_with fail
        refine KD.out.mono ?_
        rintro e wb ⟨vb, rfl, ob, xb⟩
        obtain ⟨Ab, cb, rfl⟩ := ob.form
        have HB := Lib.hid (HA.out.ext xb)
        have KT := Lib.hid (turns_t (canT T1) wb ((OA.out.ext xb).rr (by omega)) (ob.rr (by omega)) (by have := HCL.out; omega))
        clear ob xb KD OA HA
        go_wp2_with fail
        refine KT.out.mono ?_
        rintro e wc ⟨rfl, xc⟩
        have HC := Lib.hid (HB.out.ext xc)
        clear xc KT HB HCL
        obtain ⟨rl, hrl⟩ : ∃ rl, T1.L.map (·.p.1) = rl := ⟨_, rfl⟩
        have hrn : T1.L.length = rl.length := by rw [← hrl]; simp
        have hrm : rl.length ≤ 1000000 := by rw [← hrn]; have := (HC.out.tok 0 rfl).len; omega
        have HRL := Lib.hid (And.intro hrl hrn)
        have KR := Lib.hid (trowO 0 HC.out rfl rl hrl)
        clear hrl hrn
        go_wp2_with fail
        refine KR.out.mono ?_
        rintro e wd ⟨vd, rfl, od, xd⟩
        have HD := Lib.hid (HC.out.ext xd)
        have OD := Lib.hid od
        obtain ⟨Ad, cd, rfl⟩ := od.form
        have KQ := krowO 1 HD.out rfl
        rw [HRL.out.1, HRL.out.2] at KQ
        have KQ := Lib.hid KQ
        clear od xd KR
        go_wp2_with fail
        refine KQ.out.mono ?_
        rintro e we ⟨ve, rfl, oe, xe⟩
        obtain ⟨Ae, ce, rfl⟩ := oe.form
        have HEE := Lib.hid (HD.out.ext xe)
        have KI := Lib.hid (ints_t rl we ((OD.out.ext xe).rr (by omega)) (oe.rr (by omega)) hrm)
        clear oe xe KQ OD HD HRL
        go_wp2_with fail
        refine KI.out.mono ?_
        rintro e wf ⟨rfl, xf⟩
        have HF := Lib.hid (HEE.out.ext xf)
        obtain ⟨x0, -⟩ := RSt.st (HR.out.ext HF.out.bel) HX.out
        have hbf : b < wf.heap.size := by
          obtain ⟨b', off', hA, hb', -⟩ := (HR.out.ext HF.out.bel).at (by omega)
          cases hA
          exact hb'
        clear xf KI HEE HC hba
        by_cases h7 : x.k = 7
        · rw [h7] at x0
          have KY := Lib.hid (tcopyO 0 HF.out rfl)
          go_wp2_with (go_at_call 41; refine KY.out.mono ?_; rintro e w6 ⟨gc, rfl, h6⟩; have H6 := Lib.hid h6; clear h6 KY x0)
          obtain ⟨gko, rfl⟩ : ∃ g : Nat, g = gk := ⟨_, rfl⟩
          go_loopg [7] 5 (fun gg s wx => ∃ (j : Nat) (T2 : TK), j ≤ 5 ∧ 5 - j ≤ gg ∧ s = .int .i64 j ∧ T2.cnt ≤ T1.cnt + j ∧ Hid (OSt w [tkOb gc T1, tkOb g T2, ktOb g' T1] wx))
          case atStart => exact ⟨0, T1, by omega, by omega, rfl, by omega, H6⟩
          case round =>
            obtain ⟨j, T2, hj, hg2, rfl, hc2, HJ⟩ := hrel
            by_cases hlj : j < 5
            · have HN := Lib.hid (HJ.out.alloc (.cells #[.int .i64 ((j : Int) + 1), .bool true] 52 (0, 0)) (nz (by decide)))
              have hrw : RWn (wr.alloc (.cells #[.int .i64 ((j : Int) + 1), .bool true] 52 (0, 0))) (.slice (some ⟨wr.heap.size, 0, none⟩) 1 1) [((j : Int) + 1, true)] := rwn_row (l := [((j : Int) + 1, true)]) (HN.out.get 0 rfl)
              have KA := Lib.hid (taddM 2 HN.out rfl (100 + (j : Int)) [((j : Int) + 1, true)] hrw (by simp) (wf_i64 (by omega) (by omega)) (by omega))
              clear hrw
              go_wp2_with fail
              refine KA.out.mono ?_
              rintro e w7 ⟨rfl, h7, -⟩
              have H7 := Lib.hid (h7.dropI 0)
              have hca := add_cnt T2 (100 + (j : Int)) [((j : Int) + 1, true)]
              obtain ⟨T3, hT3⟩ : ∃ T3, T2.add (100 + (j : Int)) [((j : Int) + 1, true)] = T3 := ⟨_, rfl⟩
              rw [hT3] at H7 hca
              obtain ⟨⟨T4, ⟨y1, y2⟩, ye⟩, hp⟩ : ∃ p, T3.next = p := ⟨_, rfl⟩
              have hcn := next_cnt hp
              have KN := Lib.hid (tnextO 1 H7.out rfl (y1, y2) ye hp)
              clear h7 KA hp hT3 HJ HN
              go_wp2_with fail
              refine KN.out.mono ?_
              rintro e w8 ⟨rfl, h8⟩
              have H8 := Lib.hid h8
              clear h8 KN H7
              go_wp2_with (go_at_call 36; refine (tsyncO 1 H8.out rfl).mono ?_; rintro e w9 ⟨v9, rfl, h9⟩; have H9 := Lib.hid (h9.dropI 0); clear h9)
              go_roundg (5 - (j + 1))
              case measure => omega
              case rel => exact ⟨j + 1, T4.sync, by omega, by omega, by go_num, by show T4.cnt ≤ _; omega, H9⟩
            · obtain rfl : j = 5 := by omega
              go_wp2_with (go_at_call 43; refine (tclearO 1 HJ.out rfl rfl).mono ?_; rintro e w8 ⟨rfl, h8⟩; have H8 := Lib.hid (h8.dropI 1); clear h8)
              go_roundg (l.length - (k + 1))
              case measure => omega
              case rel => exact ⟨k + 1, gc, T1, by omega, by omega, by go_num, rfl, by omega, H8⟩
        · have h7b : (x.k == 7) = false := by rw [beq_eq_false_iff_ne]; exact h7
          go_wp2
          go_roundg (l.length - (k + 1))
          case measure => omega
          case rel => exact ⟨k + 1, g, T1, by omega, by omega, by go_num, rfl, by omega, HF⟩
      · as_aux_lemma =>
        obtain rfl : k = l.length := by omega
        have hokC := H.out.tok 0 rfl
        have hclC := canT_len hokC
        have HCL := Lib.hid hclC
        have KC := Lib.hid (tcanO 0 H.out rfl _ rfl)
        clear hokC hclC
        go_wp2_with fail
        refine KC.out.mono ?_
        rintro e wa ⟨va, rfl, oa, xa⟩
        have HA := Lib.hid (H.out.ext xa)
        have OA := Lib.hid oa
        obtain ⟨Aa, ca, rfl⟩ := oa.form
        have KD := Lib.hid (kcanO 1 HA.out rfl)
        clear oa xa KC
        go_wp2_with fail
        refine KD.out.mono ?_
        rintro e wb ⟨vb, rfl, ob, xb⟩
        obtain ⟨Ab, cb, rfl⟩ := ob.form
        have HB := Lib.hid (HA.out.ext xb)
        have KT := Lib.hid (turns_t (canT T) wb ((OA.out.ext xb).rr (by omega)) (ob.rr (by omega)) (by have := HCL.out; omega))
        clear ob xb KD OA HA
        go_wp2_with fail
        refine KT.out.mono ?_
        rintro e wc ⟨rfl, xc⟩
        have HC := Lib.hid (HB.out.ext xc)
        clear xc KT HB HCL
        go_wp2
        go_ret
        exact ⟨rfl, HC.out.bel⟩
theorem own : ownKnob Try.prog.godebug = none := by kernel_rfl
theorem laidOut : laidOutB Try.prog = true := by kernel_rfl

set_option maxRecDepth 100000 in
theorem lifted (os : Os) (started : os.Started) (H : Type) (enc : TypeId × Value → H) :
    ReturnsInHanded {} Try.checked os 9 .any (Rows.tasksPlaySpec.pre6 enc Try.prog Try.f9 Rows.tasksPlayRow.domain false) (Rows.tasksPlaySpec.post enc Try.prog Try.f9 false true false false) := by
  refine returnsInHanded_of_change (C := Try.checked) own started (by kernel_rfl) Try.func9
    (ChangeSpec.witness6 (enc := enc) (C := Try.checked) false ⟨#[], #[.slice none 0 0], []⟩ 8 (by kernel_rfl) (by kernel_rfl) (by kernel_rfl) (by kernel_rfl)) ?_
  intro W base args ds gs before hval0 hW hcnd _
  have hval : ∀ (j : Nat) t v, Try.f9.params[j]? = some t → args[j]? = some v → Value.okWide Try.prog W .any base t v := hval0
  have hW' := hW
  obtain ⟨p, q, hA0, hV, rfl, hfz, hnd⟩ := hW
  have hA : DataW.TrodAll enc Try.prog W 0 (fun _ => true) true Try.f9.params.toList args.toList ds p := hA0
  rw [Try.params9] at hA hval
  obtain ⟨v0, vs0, d0, ds0, p0, q0, hargs, rfl, rfl, h0, r0⟩ := trodAll_cons hA
  obtain ⟨rfl, rfl, rfl⟩ := trodAll_nil r0
  obtain rfl : args = #[v0] := by cases args; simp_all
  obtain ⟨rfl, rfl⟩ := trodVars_none hV
  have k0 := h0
  have lt0 : ∀ x ∈ p0, x.block < W.heap.size := by obtain ⟨m, hm⟩ := k0; exact DataW.trod_lt m _ _ _ hm
  obtain ⟨x0, rfl, w0⟩ := open_Wsteps (hval 0 _ v0 rfl rfl) h0
  refine (walk (w := W) x0 w0).mono fun e W' ⟨he, bel⟩ => ?_
  subst he
  exact ⟨_, rfl, _, _, _, [], _, [], hW', trodAll_mk1 (shut_bool Try.underlying4 _), (trodAll_cons_mk (Below.trod laidOut (by kernel_rfl) (of_decide_eq_true (by kernel_rfl)) k0 bel lt0) trodAll_mk0), rfl, bel.frame _, fun h => by cases h⟩

theorem proved : Rows.TasksPlaySaid :=
  OpenClaim.holds_of_wide 9 Try.f9 rfl rfl rfl rfl rfl rfl rfl ⟨rfl, rfl, rfl, rfl, rfl⟩ rfl rfl rfl rfl rfl (by kernel_rfl) Try.func9 (by kernel_rfl)
    (of_decide_eq_true (by kernel_rfl)) (by unfold Func.isWrapper; first | (rw [if_pos (by decide +kernel)]; kernel_rfl) | (rw [if_neg (by decide +kernel)]; exact ⟨rfl, rfl⟩))
    (fun os started H enc _ => lifted os started H enc)
end Go.Proofs.Ytiihlbaajopllaa.tasksPlay
