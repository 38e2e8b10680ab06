/- Proved: TasksTurns returns true, whatever it is handed. -/
import Derived.Test.YtiihlbaajopllaaMf
import Derived.Test.YtiihlbaajopllaaLift
set_option linter.unusedVariables false
set_option maxRecDepth 100000
namespace Go.Proofs.Ytiihlbaajopllaa.tasksTurns
open Go.RowKit Go.ChangeShapes Go.WideShapes Go.ChangeAt Go.Deep Go.Proofs.Ytiihlbaajopllaa

theorem add_cnt (T : TK) (n : Int) (l : List Wn) : (T.add n l).cnt ≤ T.cnt + 1 := by
  unfold TK.add
  split
  · exact Int.le_refl _
  · omega
theorem did_cnt (T : TK) (n : Int) (b : Bool) : (T.did n b).cnt = T.cnt := by
  unfold TK.did
  split <;> rfl
theorem i64_wf {a : Int} (h : (Lit.int .i64 a).wf = true) : -9223372036854775808 ≤ a ∧ a ≤ 9223372036854775807 := by
  simp [Lit.wf, IntKind.min, IntKind.max, IntKind.signed, IntKind.bits] at h
  omega
theorem rs_at {w : World} {A : Option Addr} {c : Nat} {l : List UInt8} {k : Nat} {x : UInt8} (h : RS w (.slice A l.length c) l) (hk : l[k]? = some x) : ∃ b off, A = some ⟨b, off, none⟩ ∧ b < w.heap.size ∧ l.length ≤ c ∧ w.cell? ⟨b, off + k, none⟩ = some (.int .u8 x.toNat) := by
  obtain ⟨hkl, rfl⟩ := List.getElem?_eq_some_iff.1 hk
  rcases h with ⟨_, h⟩ | ⟨b, off, c', hv, hb, hc, hj⟩
  · rw [h] at hkl; simp at hkl
  · simp only [Value.slice.injEq] at hv
    obtain ⟨rfl, -, rfl⟩ := hv
    refine ⟨b, off, rfl, hb, hc, (hj k hkl).trans ?_⟩
    simp [bvs, hkl]
    rfl
def hadL (R : List Tn) (n j i : Nat) : List Int := (List.range i).map fun m => ((R[ixT n j m]?).map (·.1)).getD 0
theorem had_at {R : List Tn} {n j i m : Nat} (hm : m < i) : ∃ y, (hadL R n j i)[m]? = some y := ⟨_, List.getElem?_eq_getElem (by simp [hadL]; exact hm)⟩
theorem had_succ {R : List Tn} {n j i : Nat} {x : Tn} (hx : R[ixT n j i]? = some x) : hadL R n j (i + 1) = hadL R n j i ++ [x.1] := by
  unfold hadL
  rw [List.range_succ, List.map_append]
  simp [hx]
theorem had_ne {T : TK} (hok : T.Ok) {n j i m : Nat} {y : Int} {x : Tn} (hn : (rotT T.L).length = n) (hj : j < n) (hi : i < n) (hm : m < i) (hy : (hadL (rotT T.L) n j i)[m]? = some y) (h1 : ∃ z, (rotT T.L)[ixT n j m]? = some z ∧ (turnS T m).next = (turnS T (m + 1), z, 0)) (hx : (rotT T.L)[ixT n j i]? = some x) : y ≠ x.1 := by
  obtain ⟨z, hz, _⟩ := h1
  have : y = z.1 := by
    unfold hadL at hy
    rw [List.getElem?_map, List.getElem?_range (by omega)] at hy
    simp only [Option.map_some, hz, Option.getD_some, Option.some.injEq] at hy
    exact hy.symm
  rw [this]
  exact rot_who hok hz hx (ixT_ne hj hi hm)
set_option maxHeartbeats 8000000 in
theorem walk {w : World} (st : StsT) (hs : st.Ok w) (vb : Value) (bs : List UInt8) (hb : RS w vb bs) (hbl : bs.length ≤ maxLen) (pk : Int) (hpk : (Lit.int .i64 pk).wf = true) :
    Calls Try.prog 6 #[st.v, vb, .int .i64 pk] w fun e w' => e = .returned (.bool true) ∧ Below w.heap.size w w' := by
  obtain ⟨hp0, hp1⟩ := i64_wf hpk
  obtain ⟨v, l⟩ := st
  obtain ⟨hr, he, hll⟩ := hs
  simp only at hr he hll ⊢
  have K1 := Lib.hid (works_any w)
  have K2 := Lib.hid fun w' (hx : Ext w w') => large_any l w' (hr.ext hx) (fun x hx' => by have := he x hx'; exact ⟨this.r.ext hx, this.ll, this.k, this.t, this.n⟩) hll
  have HR := Lib.hid hr
  have HE := Lib.hid he
  have HB := Lib.hid hb
  obtain ⟨A, c, rfl⟩ := hr.form
  obtain ⟨A2, c2, rfl⟩ := hb.form
  unfold maxLen at hll hbl
  clear hr he hb
  go_enter Try.func6, Try.ntmps6
  go_wp2_with fail
  refine K1.out.mono ?_
  rintro e w1 ⟨rfl, h1⟩
  go_wp2_with fail
  refine (K2.out w1 h1).mono ?_
  rintro e w2 ⟨B, rfl, hB, h2⟩
  have h2' : Ext w w2 := Ext.trans h1 h2
  cases B with
  | true =>
    go_wp2_with fail
    refine (works_any w2).mono ?_
    rintro e w3 ⟨rfl, h3⟩
    have F := Lib.hid (Ext.trans h2' h3)
    clear h1 h2 h2' h3 K1 K2 HR HE HB hB
    go_wp2
    go_ret
    exact ⟨rfl, F.out⟩
  | false =>
    obtain ⟨hl1, hl2⟩ := hB rfl
    have HL2 := Lib.hid hl2
    clear hB hl2 K1 K2 h1 h2
    by_cases h200 : 200 < bs.length
    · have h200' : (200 : Int) < (bs.length : Int) := by omega
      go_wp2_with fail
      refine (works_any w2).mono ?_
      rintro e w3 ⟨rfl, h3⟩
      have F := Lib.hid (Ext.trans h2' h3)
      clear h2' h3 HR HE HB
      go_wp2
      go_ret
      exact ⟨rfl, F.out⟩
    have h200' : (bs.length : Int) ≤ 200 := by omega
    have H0 : Hid (OSt (Z := Zf) w [] w2) := Lib.hid ((OSt.start w).ext h2')
    clear h2'
    go_wp2_with fail
    refine (tnewO H0.out).mono ?_
    rintro e w3 ⟨g, rfl, h3⟩
    have H3 := Lib.hid h3
    clear h3 H0
    go_wp2
    go_loopg [8] l.length (fun gg s wr => ∃ (k : Nat) (T : TK), k ≤ l.length ∧ l.length - k ≤ gg ∧ s = .int .i64 k ∧ Hid (OSt w [tkOb g T] wr) ∧ Hid (T.cnt ≤ k))
    case atStart => exact ⟨0, T0, Nat.zero_le _, by omega, rfl, H3, Lib.hid (Int.le_refl _)⟩
    case round =>
      obtain ⟨k, T, hk, hg, rfl, H, HC⟩ := hrel
      by_cases hlt : k < l.length
      · obtain ⟨b, off, rfl, hba, hca, -⟩ := (HR.out.ext H.out.bel).at (by omega)
        obtain ⟨x, hx⟩ : ∃ x, l[k]? = some x := ⟨_, List.getElem?_eq_getElem hlt⟩
        have hok := HE.out x (List.mem_of_getElem? hx)
        have hx20 := HL2.out x (List.mem_of_getElem? hx)
        obtain ⟨Aw, cw, hwv⟩ := hok.r.form
        obtain ⟨-, x1, -, -, x4⟩ := RSt.st (HR.out.ext H.out.bel) hx
        rw [hwv] at x4
        obtain ⟨t0, t1⟩ := i64_wf hok.t
        have hrw := hok.r
        rw [hwv] at hrw
        have HW := Lib.hid hrw
        have G := Lib.hid fun w' (hx : Ext wr w') => given19_any x.l w' (hrw.ext (Ext.trans H.out.bel hx)) (by omega)
        clear hx hok hwv hrw
        go_wp2
        have e0 := fun (ψ : World → Prop) (e : ExtP wr.heap.size wr ψ) => e.cell x1 hba
        have e1 := fun (ψ : World → Prop) (e : ExtP wr.heap.size wr ψ) => e.cell x4 hba
        clear x1 x4
        refine wp_region_pieces 12  [(true, [0, 1, 2, 3, 4, 5, 6, 7, 8, 9, 10]), (false, [11])] (by kernel_rfl) (by kernel_rfl) ?_; simp only [pick, List.map_cons, List.map_nil, List.flatMap_cons, List.flatMap_nil, Option.toList_some, List.singleton_append, List.drop_succ_cons, List.drop_zero, List.getElem?_cons_zero, List.getElem?_cons_succ]
        refine ⟨by kernel_rfl, ?_⟩; apply Exists.intro; refine ⟨fun ψ hψ hne => (by (repeat (go_big_quiet_step (( fail )))); exact wpQuiet_nil rfl), ?_⟩
        intro W0 h0 K hK
        clear e0 e1
        go_wp2_with (go_at_call 28; refine (G.out W0 h0).mono ?_; rintro e W1 ⟨v1, rfl, ho1, h1⟩)
        refine hK _ _ h1 ?_
        clear hK K
        intro W2 h2
        have HN := Lib.hid (((H.out.ext h0).ext h1).ext h2)
        have hv2 := (ho1.ext h2).rr (by omega)
        have hcn := HC.out
        have KA := Lib.hid (taddO 0 HN.out rfl x.t x.l hv2 (by omega) t0 t1 (by omega) _ rfl rfl)
        clear h0 h1 h2 hv2 ho1 H G HW
        go_wp2_with fail
        refine KA.out.mono ?_
        rintro e w6 ⟨rfl, h6⟩
        have H6 : Hid (OSt w [tkOb g (T.add x.t x.l)] w6) := Lib.hid h6
        have HC6 : Hid ((T.add x.t x.l).cnt ≤ ((k + 1 : Nat) : Int)) := Lib.hid (by have := add_cnt T x.t x.l; omega)
        clear h6 HN KA HC hcn
        generalize T.add x.t x.l = T6 at *
        go_wp2
        go_roundg (l.length - (k + 1))
        case measure => omega
        case rel => exact ⟨k + 1, T6, by omega, by omega, by go_num, H6, HC6⟩
      · obtain rfl : k = l.length := by omega
        have hcn : T.cnt ≤ 150 := by have := HC.out; omega
        clear HC HL2 HE HR
        go_wp2
        go_loopg [9] bs.length (fun gg s wr => ∃ (k : Nat) (T : TK), k ≤ bs.length ∧ bs.length - k ≤ gg ∧ s = .int .i64 k ∧ Hid (OSt w [tkOb g T] wr))
        case atStart => exact ⟨0, T, Nat.zero_le _, by omega, rfl, H⟩
        case round =>
          clear H hcn T
          obtain ⟨k, T, hk, hg, rfl, H⟩ := hrel
          by_cases hlt : k < bs.length
          · obtain ⟨x, hx⟩ : ∃ x, bs[k]? = some x := ⟨_, List.getElem?_eq_getElem hlt⟩
            obtain ⟨b, off, rfl, hba, hca, x0⟩ := rs_at (HB.out.ext H.out.bel) hx
            have hxb := x.toNat_lt
            clear hx
            go_wp2_with fail
            refine (tdidO 0 H.out rfl _ _ (by omega) (by omega) _ rfl rfl).mono ?_
            rintro e w6 ⟨rfl, h6⟩
            have H6 := Lib.hid h6
            replace H6 : Hid (OSt w [tkOb g (T.did x.toNat ((k : Int) % 2 == 0))] w6) := H6
            clear h6 H
            generalize T.did x.toNat ((k : Int) % 2 == 0) = T6 at *
            go_wp2
            go_roundg (bs.length - (k + 1))
            case measure => omega
            case rel => exact ⟨k + 1, T6, by omega, by omega, by go_num, H6⟩
          · obtain rfl : k = bs.length := by omega
            obtain ⟨T1, x1, e1, hp⟩ : ∃ T1 x1 e1, T.pick pk = (T1, x1, e1) := ⟨_, _, _, rfl⟩
            have KP := Lib.hid (tpickO 0 H.out rfl pk hp0 hp1 x1 e1 hp)
            clear hp HB
            go_wp2_with fail
            refine KP.out.mono ?_
            rintro e w5 ⟨rfl, h5⟩
            have H5 : Hid (OSt w [tkOb g T1] w5) := Lib.hid h5
            clear h5 KP H
            have HOK : Hid T1.Ok := Lib.hid (by obtain ⟨S, h1, _⟩ := H5.out.pick (i := 0) rfl; exact h1.2)
            have hcl := canT_len HOK.out
            go_wp2_with fail
            refine (tcanO 0 H5.out rfl _ rfl).mono ?_
            rintro e w6 ⟨v6, rfl, ho6, hx6⟩
            obtain ⟨A6, c6, rfl⟩ := ho6.form
            have H6 := Lib.hid ((H5.out.ext hx6).ownNil 3 (by decide) 1)
            clear ho6 hx6 H5
            have hrl : (rotT T1.L).length = (canT T1).length := rot_len
            obtain ⟨j, hJ⟩ : ∃ j, Hid (∀ i, i < (canT T1).length → j < (canT T1).length ∧ ∃ x, (rotT T1.L)[ixT (canT T1).length j i]? = some x ∧ (turnS T1 i).next = (turnS T1 (i + 1), x, 0)) := by
              by_cases hn : 0 < (canT T1).length
              · obtain ⟨j, h1, h2⟩ := turns_at HOK.out (by rw [hrl]; exact hn)
                rw [hrl] at h1 h2
                exact ⟨j, Lib.hid fun i hi => by obtain ⟨x, k1, k2, _⟩ := h2 i hi; exact ⟨h1, x, k1, k2⟩⟩
              · exact ⟨0, Lib.hid fun i hi => absurd hi (by omega)⟩
            have HLEN := Lib.hid (rfl : (canT T1).length = (canT T1).length)
            obtain ⟨n, hn⟩ : ∃ n, n = (canT T1).length := ⟨_, rfl⟩
            have HN := Lib.hid hn
            rw [← hn] at hJ hcl ⊢
            clear hn hrl HLEN
            go_wp2
            go_loopg [11, 12] n (fun gg u s wr => ∃ i : Nat, i ≤ n ∧ n - i ≤ gg ∧ s = .int .i64 i ∧ Hid (OSt w [ownOb 3 (by decide) 1 u i (ics (hadL (rotT T1.L) n j i)), tkOb g (turnS T1 i)] wr))
            case atStart => exact ⟨0, Nat.zero_le _, by omega, rfl, H6⟩
            case round =>
              obtain ⟨i, hi, hg, rfl, H⟩ := hrel
              have ho := (H.out.own 0 rfl).form
              obtain ⟨A7, c7, rfl⟩ := ho
              by_cases hlt : i < n
              · obtain ⟨hji, x, hx, hnx⟩ := hJ.out i hlt
                have KN := Lib.hid (tnextO 1 H.out rfl x 0 hnx)
                have HX := Lib.hid hx
                clear hx hnx H
                go_wp2_with fail
                refine KN.out.mono ?_
                rintro e w7 ⟨rfl, h7⟩
                have H7 : Hid (OSt w [ownOb 3 (by decide) 1 (.slice A7 i c7) i (ics (hadL (rotT T1.L) n j i)), tkOb g (turnS T1 (i + 1))] (w7.alloc (.cells #[.int .i64 x.1, .int .u8 x.2] 64))) := Lib.hid (h7.ext (extAl _ _))
                have HR8 := Lib.hid (heap_alloc_last w7 (.cells #[.int .i64 x.1, .int .u8 x.2] 64))
                clear h7 KN
                go_wp2
                generalize w7.alloc (.cells #[.int .i64 x.1, .int .u8 x.2] 64) = w8 at *
                generalize w7.heap.size = r8 at *
                obtain ⟨gko, rfl⟩ : ∃ g : Nat, g = gk := ⟨_, rfl⟩
                go_loopg [15] i (fun gg s wr => ∃ m : Nat, m ≤ i ∧ i - m ≤ gg ∧ s = .int .i64 m ∧ Hid (Ext w8 wr))
                case atStart => exact ⟨0, Nat.zero_le _, by omega, rfl, Lib.hid (Ext.refl _)⟩
                case round =>
                  obtain ⟨m, hm, hg2, rfl, HW⟩ := hrel
                  have H9 := Lib.hid (H7.out.ext HW.out)
                  obtain ⟨u0, u1, uf, ul⟩ := blk2 (Ext.blk HW.out HR8.out)
                  by_cases hlt2 : m < i
                  · obtain ⟨y, hy⟩ := had_at (R := rotT T1.L) (n := n) (j := j) hlt2
                    obtain ⟨b7, rfl, -, hbl7, hbc7, hbj7⟩ := (H9.out.own 0 rfl).cells (by omega)
                    have hbc7 := hbc7 (by omega)
                    have hml := (List.getElem?_eq_some_iff.1 hy).1
                    have y0 : wr.cell? ⟨b7, m, none⟩ = some (.int .i64 y) := by
                      rw [hbj7 m (by rw [ics_length]; exact hml)]
                      simp [ics, (List.getElem?_eq_some_iff.1 hy).2]
                    have hyx : y ≠ x.1 := had_ne HOK.out (by rw [rot_len, HN.out]) hji hlt hlt2 hy (by have := hJ.out m (by omega); exact this.2) HX.out
                    have hyx' : (y == x.1) = false := by rw [beq_eq_false_iff_ne]; exact hyx
                    clear hy hml hbj7 H9
                    have e0 := fun (ψ : World → Prop) (e : ExtP wr.heap.size wr ψ) => e.cell y0 hbl7
                    have e1 := fun (ψ : World → Prop) (e : ExtP wr.heap.size wr ψ) => e.cell u0 ul
                    clear y0 u0 u1 uf ul
                    go_wp2
                    refine wp_region_pieces 7  [(true, [0, 1, 2, 3, 4, 5, 6])] (by kernel_rfl) (by kernel_rfl) ?_; simp only [pick, List.map_cons, List.map_nil, List.flatMap_cons, List.flatMap_nil, Option.toList_some, List.singleton_append, List.drop_succ_cons, List.drop_zero, List.getElem?_cons_zero, List.getElem?_cons_succ]
                    refine ⟨by kernel_rfl, ?_⟩; apply Exists.intro; refine ⟨fun ψ hψ hne => (by (repeat (go_big_quiet_step (( fail )))); exact wpQuiet_nil rfl), ?_⟩
                    intro w9 h9
                    have HW9 := Lib.hid (Ext.trans HW.out h9)
                    clear e0 e1 h9 HW
                    go_wp2
                    go_roundg (i - (m + 1))
                    case measure => omega
                    case rel => exact ⟨m + 1, by omega, by omega, by go_num, HW9⟩
                  · obtain rfl : m = i := by omega
                    obtain ⟨v', W', hr, h10⟩ := H9.out.appInt 0 rfl x.1 (by omega)
                    have Hr := Lib.hid hr
                    have H10 : Hid (OSt w [ownOb 3 (by decide) 1 v' (m + 1) (ics (hadL (rotT T1.L) n j (m + 1))), tkOb g (turnS T1 (m + 1))] W') := Lib.hid (by
                      have e : ics (hadL (rotT T1.L) n j (m + 1)) = ics (hadL (rotT T1.L) n j m) ++ [.int .i64 x.1] := by
                        rw [had_succ HX.out, ics_app]
                        rfl
                      rw [e]
                      exact h10)
                    clear hr h10 H9
                    go_wp2_with (at_builtin; refine wpList_app rfl (.tmp 95) (.tmp 98) 28 28 rfl Hr.out ?_; simp only [Act.put])
                    go_roundg (n - (m + 1))
                    case measure => omega
                    case rel => exact ⟨m + 1, by omega, by omega, by go_num, H10⟩
              · obtain rfl : i = n := by omega
                have hcan : (canT (turnS T1 i)).length = i := by
                  obtain ⟨k1, k2⟩ := turnS_ok HOK.out i
                  have : canT (turnS T1 i) = canT T1 := by unfold canT; rw [k2]
                  rw [this, HN.out]
                have KC := tcanO 1 H.out rfl _ rfl
                rw [hcan] at KC
                have KC := Lib.hid KC
                have HBE := Lib.hid H.out.bel
                clear hcan H hJ HN HOK
                go_wp2_with fail
                refine KC.out.mono ?_
                rintro e w7 ⟨v7, rfl, ho7, hx7⟩
                obtain ⟨A8, c8, rfl⟩ := ho7.form
                have HF := Lib.hid (Ext.trans HBE.out hx7)
                clear ho7 hx7 KC HBE
                go_wp2
                go_ret
                exact ⟨rfl, HF.out⟩
theorem own : ownKnob Try.prog.godebug = none := by kernel_rfl
theorem laidOut : laidOutB Try.prog = true := by kernel_rfl

set_option maxRecDepth 100000 in
theorem lifted (os : Os) (started : os.Started) (H : Type) (enc : TypeId × Value → H) :
    ReturnsInHanded {} Try.checked os 6 .any (Rows.tasksTurnsSpec.pre6 enc Try.prog Try.f6 Rows.tasksTurnsRow.domain false) (Rows.tasksTurnsSpec.post enc Try.prog Try.f6 false true false false) := by
  refine returnsInHanded_of_change (C := Try.checked) own started (by kernel_rfl) Try.func6
    (ChangeSpec.witness6 (enc := enc) (C := Try.checked) false ⟨#[], #[.slice none 0 0, .slice none 0 0, .int .i64 0], []⟩ 8 (by kernel_rfl) (by kernel_rfl) (by kernel_rfl) (by kernel_rfl)) ?_
  intro W base args ds gs before hval0 hW hcnd _
  have hval : ∀ (j : Nat) t v, Try.f6.params[j]? = some t → args[j]? = some v → Value.okWide Try.prog W .any base t v := hval0
  have hW' := hW
  obtain ⟨p, q, hA0, hV, rfl, hfz, hnd⟩ := hW
  have hA : DataW.TrodAll enc Try.prog W 0 (fun _ => true) true Try.f6.params.toList args.toList ds p := hA0
  rw [Try.params6] at hA hval
  obtain ⟨v0, vs0, d0, ds0, p0, q0, hargs, rfl, rfl, h0, r0⟩ := trodAll_cons hA
  obtain ⟨v1, vs1, d1, ds1, p1, q1, rfl, rfl, rfl, h1, r1⟩ := trodAll_cons r0
  obtain ⟨v2, vs2, d2, ds2, p2, q2, rfl, rfl, rfl, h2, r2⟩ := trodAll_cons r1
  obtain ⟨rfl, rfl, rfl⟩ := trodAll_nil r2
  obtain rfl : args = #[v0, v1, v2] := by cases args; simp_all
  obtain ⟨rfl, rfl⟩ := trodVars_none hV
  have k0 := h0
  have lt0 : ∀ x ∈ p0, x.block < W.heap.size := by obtain ⟨m, hm⟩ := k0; exact DataW.trod_lt m _ _ _ hm
  have k1 := h1
  have lt1 : ∀ x ∈ p1, x.block < W.heap.size := by obtain ⟨m, hm⟩ := k1; exact DataW.trod_lt m _ _ _ hm
  have k2 := h2
  have lt2 : ∀ x ∈ p2, x.block < W.heap.size := by obtain ⟨m, hm⟩ := k2; exact DataW.trod_lt m _ _ _ hm
  obtain ⟨x0, rfl, w0⟩ := open_Wsteps (hval 0 _ v0 rfl rfl) h0
  obtain ⟨l1, y1, wl1⟩ := open_bytes Try.underlying55 Try.underlying5 (by kernel_rfl) (hval 1 _ v1 rfl rfl) h1
  obtain ⟨a2, rfl, -, -, wa2⟩ := open_int Try.underlying3 (hval 2 _ v2 rfl rfl) h2
  refine (walk (w := W) x0 w0 v1 l1 y1 wl1 a2 wa2).mono fun e W' ⟨he, bel⟩ => ?_
  subst he
  exact ⟨_, rfl, _, _, _, [], _, [], hW', trodAll_mk1 (shut_bool Try.underlying4 _), (trodAll_cons_mk (Below.trod laidOut (by kernel_rfl) (of_decide_eq_true (by kernel_rfl)) k0 bel lt0) (trodAll_cons_mk (Below.trod laidOut (by kernel_rfl) (of_decide_eq_true (by kernel_rfl)) k1 bel lt1) (trodAll_cons_mk (Below.trod laidOut (by kernel_rfl) (of_decide_eq_true (by kernel_rfl)) k2 bel lt2) trodAll_mk0))), rfl, bel.frame _, fun h => by cases h⟩

theorem proved : Rows.TasksTurnsSaid :=
  OpenClaim.holds_of_wide 6 Try.f6 rfl rfl rfl rfl rfl rfl rfl ⟨rfl, rfl, rfl, rfl, rfl⟩ rfl rfl rfl rfl rfl (by kernel_rfl) Try.func6 (by kernel_rfl)
    (of_decide_eq_true (by kernel_rfl)) (by unfold Func.isWrapper; first | (rw [if_pos (by decide +kernel)]; kernel_rfl) | (rw [if_neg (by decide +kernel)]; exact ⟨rfl, rfl⟩))
    (fun os started H enc _ => lifted os started H enc)
end Go.Proofs.Ytiihlbaajopllaa.tasksTurns
