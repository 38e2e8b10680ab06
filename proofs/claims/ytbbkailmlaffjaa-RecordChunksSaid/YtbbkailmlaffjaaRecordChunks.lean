/- RecordChunks: what is told hangs on the bytes alone. -/
import Derived.Test.YtbbkailmlaffjaaRcM
set_option linter.unusedVariables false
set_option maxRecDepth 100000
namespace Go.Proofs.Ytbbkailmlaffjaa.recordChunks
open Go.Proofs.Ytbbkailmlaffjaa
open Go.RowKit Go.ChangeShapes Go.WideShapes Go.ChangeAt Go.Deep

set_option maxHeartbeats 4000000 in
theorem walk {w : World} (v : Value) (lb : List UInt8) (hv : RS w v lb) (wlb : lb.length ≤ maxLen) (vc : Value) (lc : List UInt8) (hc : RS w vc lc) (wlc : lc.length ≤ maxLen) :
    Calls Try.prog 3 #[v, vc] w fun e w' => e = .returned (.bool true) ∧ Below w.heap.size w w' := by
  obtain ⟨A, c, rfl⟩ := hv.form
  obtain ⟨Ac, cc, rfl⟩ := hc.form
  have HV := Lib.hid hv
  have HC := Lib.hid hc
  clear hv hc
  unfold maxLen at wlb wlc
  by_cases hb : 9000 < lb.length
  · go_enter Try.func3, Try.ntmps3
    go_wp2_with (go_at_call 8; refine (awake_any _).mono ?_; rintro e w1 ⟨rfl, h1⟩)
    go_ret
    exact ⟨rfl, h1⟩
  · obtain ⟨S1, X1, hF⟩ : ∃ S1 X1, feed rc0 lb = (S1, X1) := ⟨_, _, rfl⟩
    have HF := Lib.hid hF
    clear hF
    have hb' : (lb.length : Int) ≤ 9000 := by omega
    go_enter Try.func3, Try.ntmps3
    go_wp2_with fail
    refine (awake_any _).mono ?_
    rintro e w1 ⟨rfl, h1⟩
    have O1 := Lib.hid ((OSt.start (Z := Zn) w).ext h1)
    clear h1
    go_wp2_with fail
    refine (newO O1.out).mono ?_
    rintro e w2 ⟨g1, rfl, o2⟩
    have O2 := Lib.hid o2
    clear o2 O1
    go_wp2_with fail
    refine (newO O2.out).mono ?_
    rintro e w3 ⟨g2, rfl, o3⟩
    have O3 := Lib.hid o3
    clear o3 O2
    have haw : Away w [rcOb g2 rc0, rcOb g1 rc0] 1 (.slice A lb.length c) := away_rs HV.out
    have K := feedO O3.out 1 (g := g1) (s := rc0) rfl rc0_ok (HV.out.ext O3.out.bel) haw (by omega) (by decide)
    rw [HF.out] at K
    go_wp2_with fail
    refine K.mono ?_
    rintro e w4 ⟨tv1, rfl, o4⟩
    have O4 : Hid (OSt w [strOb (.slice none 0 0) [], strOb tv1 X1, rcOb g2 rc0, rcOb g1 S1] w4) := Lib.hid (o4.ownNil _ 1)
    clear o4 K haw O3
    go_upto_region 9 with fail
    go_loopw [9, 10, 11, 12, 13, 14, 15] (fun pv fv av iv _ _ _ wr => ∃ (k a : Nat) (s : Rc) (xs : List (List UInt8)), k ≤ lc.length ∧ a ≤ lb.length ∧ fv = .int .i64 (shN s.shut) ∧ av = .int .i64 a ∧ iv = .int .i64 k ∧ Hid (OSt w [strOb pv xs, strOb tv1 X1, rcOb g2 s, rcOb g1 S1] wr) ∧ Hid (feed rc0 (lb.take a) = (s, xs))) (fun _ _ _ iv _ _ _ _ => lc.length - (intOf iv).toNat)
    case atStart => exact ⟨0, 0, rc0, [], Nat.zero_le _, Nat.zero_le _, rfl, rfl, rfl, O4, Lib.hid rfl⟩
    case round =>
      obtain ⟨k, a, s, xs, hk, ha, rfl, rfl, rfl, HO, HE⟩ := hrel
      by_cases hin : k < lc.length ∧ a < lb.length
      · obtain ⟨hkl, hal⟩ := hin
        obtain ⟨x, hx⟩ : ∃ x, lc[k]? = some x := ⟨_, List.getElem?_eq_getElem hkl⟩
        obtain ⟨bc, oc, rfl, hbc, hcc, hcell⟩ := (HC.out.ext HO.out.bel).byte hx
        obtain ⟨bb, ob, rfl, -, hbb, hbc2, -⟩ := HV.out.some_of (by intro e; subst e; simp at hal)
        have hx256 := x.toNat_lt
        obtain ⟨m, hm⟩ : ∃ m, x.toNat = m := ⟨_, rfl⟩
        rw [hm] at hcell hx256
        clear hx hm
        go_upto_region 11 with fail
        go_cut [13] (fun tv wx => ∃ t : Nat, a ≤ t ∧ t ≤ lb.length ∧ tv = .int .i64 t ∧ Hid (wr = wx))
        case first =>
          have hm8 : (m : Int) < 256 := by omega
          by_cases hlt : a + m ≤ lb.length
          · have hlt' : (a : Int) + m ≤ lb.length := by omega
            go_wp2_with fail
            go_meet
            case rel => exact ⟨a + m, by omega, hlt, by simp, Lib.hid rfl⟩
          · have hlt' : ¬ (a : Int) + m ≤ lb.length := by omega
            go_wp2_with fail
            go_meet
            case rel => exact ⟨lb.length, by omega, Nat.le_refl _, rfl, Lib.hid rfl⟩
        case rest =>
        obtain ⟨t, hat, htl, rfl, HW⟩ := hcut
        obtain rfl := HW.out
        clear HW hcell hcc hbc hx256
        obtain ⟨s', ys, hF2⟩ : ∃ s' ys, feed s ((lb.drop a).take (t - a)) = (s', ys) := ⟨_, _, rfl⟩
        have hF3 := feed_to HE.out hat hF2
        have K := feedO HO.out 2 (g := g2) (s := s) (v := .slice (some ⟨bb, ob + a, none⟩) (t - a) (c - a)) rfl (feedOk HE.out) (RS.part (HV.out.ext HO.out.bel) a (t - a) (c - a) (by omega) (by omega)) (away_arg hbb) (by simp; omega) (feedHeld HE.out (by simp; omega))
        rw [hF2] at K
        have hcx := feedCount HE.out
        have hcy := feedCount hF2
        simp only [List.length_take, List.length_drop] at hcx hcy
        have HK := Lib.hid K
        have HF3 := Lib.hid hF3
        have hxy : xs.length + ys.length ≤ 20000 := by omega
        clear K hF2 hF3 HE HO hcx hcy
        go_wp2_with fail
        refine HK.out.mono ?_
        rintro e w5 ⟨tv, rfl, o5⟩
        have O5 : Hid (OSt w [strOb tv ys, strOb u9 xs, strOb tv1 X1, rcOb g2 s', rcOb g1 S1] w5) := Lib.hid o5
        obtain ⟨pv', w6, hr, o6⟩ := O5.out.tell (ty := 26) 1 0 rfl rfl (by omega)
        have O6 : Hid (OSt w [strOb pv' (xs ++ ys), strOb tv1 X1, rcOb g2 s', rcOb g1 S1] w6) := Lib.hid (o6.dropI 0)
        clear o5 o6 HK O5
        go_wp2_with (at_builtin; refine wpList_app rfl (.tmp 65) (.tmp 66) 26 26 rfl hr ?_; simp only [Act.put])
        go_roundw
        case rel => exact ⟨k + 1, t, s', xs ++ ys, by omega, htl, rfl, rfl, by go_num, O6, HF3⟩
        case measure => simp only [intOf]; omega
      · obtain ⟨s', ys, hF2⟩ : ∃ s' ys, feed s (lb.drop a) = (s', ys) := ⟨_, _, rfl⟩
        have hF3 := feed_end HE.out hF2
        rw [HF.out] at hF3
        simp only [Prod.mk.injEq] at hF3
        obtain ⟨rfl, rfl⟩ := hF3
        have hcx := feedCount HE.out
        have hcy := feedCount hF2
        simp only [List.length_take, List.length_drop] at hcx hcy
        have hxy : xs.length + ys.length ≤ 20000 := by omega
        have HShut := Lib.hid (feed_shuts hF2)
        have HF2 := Lib.hid hF2
        have HOk := Lib.hid (feedOk HE.out)
        have HHe := Lib.hid (feedHeld HE.out (by simp; omega))
        clear hF2 hcx hcy HE
        have hal : (a : Int) ≤ lb.length := by omega
        by_cases hkl : k < lc.length
        · have hal2 : (lb.length : Int) ≤ a := by omega
          go_upto_region 16 with fail
          go_cut [16, 17] (fun tv gv wx => gv = .int .i64 (shN S1.shut) ∧ Hid (OSt w [strOb tv ys, strOb u9 xs, strOb tv1 (xs ++ ys), rcOb g2 S1, rcOb g1 S1] wx))
          case first =>
            have HF2x := HF2
            rcases rs_drop HV.out ha with ⟨rfl, rfl, rfl, rfl⟩ | ⟨b, off, rfl, hbl, rfl, rfl, hRS⟩ | ⟨b, off, rfl, hbl, hc1, hlc, hRS⟩
            · have K := feedO HO.out 2 (g := g2) (s := s) (v := .slice none 0 0) (ch := List.drop 0 []) rfl HOk.out (.inl ⟨rfl, rfl⟩) (fun b off n c e => by cases e) (by simp) HHe.out
              rw [HF2x.out] at K
              have HK := Lib.hid K
              clear K
              go_wp2_with fail
              refine HK.out.mono ?_
              rintro e w5 ⟨tv, rfl, o5⟩
              have O5 : Hid (OSt w [strOb tv ys, strOb u9 xs, strOb tv1 (xs ++ ys), rcOb g2 S1, rcOb g1 S1] w5) := Lib.hid o5
              clear o5 HK
              go_wp2_with fail
              go_meet
              case rel => exact ⟨rfl, O5⟩
            · have K := feedO HO.out 2 (g := g2) (s := s) (v := .slice (some ⟨b, off, none⟩) 0 0) (ch := lb.drop lb.length) rfl HOk.out (hRS _ HO.out.bel) (away_arg hbl) (by simp) HHe.out
              rw [HF2x.out] at K
              have HK := Lib.hid K
              clear K
              go_wp2_with fail
              refine HK.out.mono ?_
              rintro e w5 ⟨tv, rfl, o5⟩
              have O5 : Hid (OSt w [strOb tv ys, strOb u9 xs, strOb tv1 (xs ++ ys), rcOb g2 S1, rcOb g1 S1] w5) := Lib.hid o5
              clear o5 HK
              go_wp2_with fail
              go_meet
              case rel => exact ⟨rfl, O5⟩
            · have K := feedO HO.out 2 (g := g2) (s := s) (v := .slice (some ⟨b, off + a, none⟩) (lb.length - a) (c - a)) (ch := lb.drop a) rfl HOk.out (hRS _ HO.out.bel) (away_arg hbl) (by simp; omega) HHe.out
              rw [HF2x.out] at K
              have HK := Lib.hid K
              clear K
              go_wp2_with fail
              refine HK.out.mono ?_
              rintro e w5 ⟨tv, rfl, o5⟩
              have O5 : Hid (OSt w [strOb tv ys, strOb u9 xs, strOb tv1 (xs ++ ys), rcOb g2 S1, rcOb g1 S1] w5) := Lib.hid o5
              clear o5 HK
              go_wp2_with fail
              go_meet
              case rel => exact ⟨rfl, O5⟩
          case rest =>
            obtain ⟨rfl, O5⟩ := hcut
            obtain ⟨pv', w6, hr, o6⟩ := O5.out.tell (ty := 26) 1 0 rfl rfl (by omega)
            have O6 : Hid (OSt w [strOb pv' (xs ++ ys), strOb tv1 (xs ++ ys), rcOb g2 S1, rcOb g1 S1] w6) := Lib.hid (o6.dropI 0)
            clear o6 O5 HO
            go_upto_region 18 with (at_builtin; refine wpList_app rfl (.tmp 78) (.tmp 79) 26 26 rfl hr ?_; simp only [Act.put])
            clear hr
            have KS := Lib.hid (Same_t (xs ++ ys) w6 ((O6.out.own 1 rfl).rr (by decide)) ((O6.out.own 0 rfl).rr (by decide)) (by simp; omega))
            cases hs : S1.shut with
            | true =>
              rw [show shN true = 40 from rfl]
              go_wp2_with fail
              refine KS.out.mono ?_
              rintro e w7 ⟨rfl, h7⟩
              have O7 := Lib.hid (O6.out.ext h7)
              clear h7 KS O6
              go_wp2_with fail
              refine (heldO O7.out 3 rfl).mono ?_
              rintro e w8 ⟨rfl, rfl⟩
              go_wp2_with fail
              refine (heldO O7.out 2 rfl).mono ?_
              rintro e w8 ⟨rfl, rfl⟩
              go_wp2_with fail
              refine (shutO O7.out 3 rfl).mono ?_
              rintro e w8 ⟨rfl, rfl⟩
              go_wp2_with fail
              refine (shutO O7.out 2 rfl).mono ?_
              rintro e w8 ⟨rfl, rfl⟩
              rw [hs]
              go_wp2_with fail
              go_ret
              exact ⟨rfl, O7.out.bel⟩
            | false =>
              rw [HShut.out hs, show shN false = 0 from rfl]
              go_wp2_with fail
              refine KS.out.mono ?_
              rintro e w7 ⟨rfl, h7⟩
              have O7 := Lib.hid (O6.out.ext h7)
              clear h7 KS O6
              go_wp2_with fail
              refine (heldO O7.out 3 rfl).mono ?_
              rintro e w8 ⟨rfl, rfl⟩
              go_wp2_with fail
              refine (heldO O7.out 2 rfl).mono ?_
              rintro e w8 ⟨rfl, rfl⟩
              go_wp2_with fail
              refine (shutO O7.out 3 rfl).mono ?_
              rintro e w8 ⟨rfl, rfl⟩
              go_wp2_with fail
              refine (shutO O7.out 2 rfl).mono ?_
              rintro e w8 ⟨rfl, rfl⟩
              rw [hs]
              go_wp2_with fail
              go_ret
              exact ⟨rfl, O7.out.bel⟩
        · obtain rfl : k = lc.length := by omega
          go_upto_region 16 with fail
          go_cut [16, 17] (fun tv gv wx => gv = .int .i64 (shN S1.shut) ∧ Hid (OSt w [strOb tv ys, strOb u9 xs, strOb tv1 (xs ++ ys), rcOb g2 S1, rcOb g1 S1] wx))
          case first =>
            have HF2x := HF2
            rcases rs_drop HV.out ha with ⟨rfl, rfl, rfl, rfl⟩ | ⟨b, off, rfl, hbl, rfl, rfl, hRS⟩ | ⟨b, off, rfl, hbl, hc1, hlc, hRS⟩
            · have K := feedO HO.out 2 (g := g2) (s := s) (v := .slice none 0 0) (ch := List.drop 0 []) rfl HOk.out (.inl ⟨rfl, rfl⟩) (fun b off n c e => by cases e) (by simp) HHe.out
              rw [HF2x.out] at K
              have HK := Lib.hid K
              clear K
              go_wp2_with fail
              refine HK.out.mono ?_
              rintro e w5 ⟨tv, rfl, o5⟩
              have O5 : Hid (OSt w [strOb tv ys, strOb u9 xs, strOb tv1 (xs ++ ys), rcOb g2 S1, rcOb g1 S1] w5) := Lib.hid o5
              clear o5 HK
              go_wp2_with fail
              go_meet
              case rel => exact ⟨rfl, O5⟩
            · have K := feedO HO.out 2 (g := g2) (s := s) (v := .slice (some ⟨b, off, none⟩) 0 0) (ch := lb.drop lb.length) rfl HOk.out (hRS _ HO.out.bel) (away_arg hbl) (by simp) HHe.out
              rw [HF2x.out] at K
              have HK := Lib.hid K
              clear K
              go_wp2_with fail
              refine HK.out.mono ?_
              rintro e w5 ⟨tv, rfl, o5⟩
              have O5 : Hid (OSt w [strOb tv ys, strOb u9 xs, strOb tv1 (xs ++ ys), rcOb g2 S1, rcOb g1 S1] w5) := Lib.hid o5
              clear o5 HK
              go_wp2_with fail
              go_meet
              case rel => exact ⟨rfl, O5⟩
            · have K := feedO HO.out 2 (g := g2) (s := s) (v := .slice (some ⟨b, off + a, none⟩) (lb.length - a) (c - a)) (ch := lb.drop a) rfl HOk.out (hRS _ HO.out.bel) (away_arg hbl) (by simp; omega) HHe.out
              rw [HF2x.out] at K
              have HK := Lib.hid K
              clear K
              go_wp2_with fail
              refine HK.out.mono ?_
              rintro e w5 ⟨tv, rfl, o5⟩
              have O5 : Hid (OSt w [strOb tv ys, strOb u9 xs, strOb tv1 (xs ++ ys), rcOb g2 S1, rcOb g1 S1] w5) := Lib.hid o5
              clear o5 HK
              go_wp2_with fail
              go_meet
              case rel => exact ⟨rfl, O5⟩
          case rest =>
            obtain ⟨rfl, O5⟩ := hcut
            obtain ⟨pv', w6, hr, o6⟩ := O5.out.tell (ty := 26) 1 0 rfl rfl (by omega)
            have O6 : Hid (OSt w [strOb pv' (xs ++ ys), strOb tv1 (xs ++ ys), rcOb g2 S1, rcOb g1 S1] w6) := Lib.hid (o6.dropI 0)
            clear o6 O5 HO
            go_upto_region 18 with (at_builtin; refine wpList_app rfl (.tmp 78) (.tmp 79) 26 26 rfl hr ?_; simp only [Act.put])
            clear hr
            have KS := Lib.hid (Same_t (xs ++ ys) w6 ((O6.out.own 1 rfl).rr (by decide)) ((O6.out.own 0 rfl).rr (by decide)) (by simp; omega))
            cases hs : S1.shut with
            | true =>
              rw [show shN true = 40 from rfl]
              go_wp2_with fail
              refine KS.out.mono ?_
              rintro e w7 ⟨rfl, h7⟩
              have O7 := Lib.hid (O6.out.ext h7)
              clear h7 KS O6
              go_wp2_with fail
              refine (heldO O7.out 3 rfl).mono ?_
              rintro e w8 ⟨rfl, rfl⟩
              go_wp2_with fail
              refine (heldO O7.out 2 rfl).mono ?_
              rintro e w8 ⟨rfl, rfl⟩
              go_wp2_with fail
              refine (shutO O7.out 3 rfl).mono ?_
              rintro e w8 ⟨rfl, rfl⟩
              go_wp2_with fail
              refine (shutO O7.out 2 rfl).mono ?_
              rintro e w8 ⟨rfl, rfl⟩
              rw [hs]
              go_wp2_with fail
              go_ret
              exact ⟨rfl, O7.out.bel⟩
            | false =>
              rw [HShut.out hs, show shN false = 0 from rfl]
              go_wp2_with fail
              refine KS.out.mono ?_
              rintro e w7 ⟨rfl, h7⟩
              have O7 := Lib.hid (O6.out.ext h7)
              clear h7 KS O6
              go_wp2_with fail
              refine (heldO O7.out 3 rfl).mono ?_
              rintro e w8 ⟨rfl, rfl⟩
              go_wp2_with fail
              refine (heldO O7.out 2 rfl).mono ?_
              rintro e w8 ⟨rfl, rfl⟩
              go_wp2_with fail
              refine (shutO O7.out 3 rfl).mono ?_
              rintro e w8 ⟨rfl, rfl⟩
              go_wp2_with fail
              refine (shutO O7.out 2 rfl).mono ?_
              rintro e w8 ⟨rfl, rfl⟩
              rw [hs]
              go_wp2_with fail
              go_ret
              exact ⟨rfl, O7.out.bel⟩
theorem own : ownKnob Try.prog.godebug = none := by kernel_rfl
theorem laidOut : laidOutB Try.prog = true := by kernel_rfl

set_option maxRecDepth 100000 in
theorem lifted (os : Os) (started : os.Started) (H : Type) (enc : TypeId × Value → H) :
    ReturnsInHanded {} Try.checked os 3 .any (Rows.recordChunksSpec.pre6 enc Try.prog Try.f3 Rows.recordChunksRow.domain false) (Rows.recordChunksSpec.post enc Try.prog Try.f3 false true false false) := by
  refine returnsInHanded_of_change (C := Try.checked) own started (by kernel_rfl) Try.func3
    (ChangeSpec.witness6 (enc := enc) (C := Try.checked) false ⟨#[], #[.slice none 0 0, .slice none 0 0], []⟩ 8 (by kernel_rfl) (by kernel_rfl) (by kernel_rfl) (by kernel_rfl)) ?_
  intro W base args ds gs before hval0 hW hcnd _
  have hval : ∀ (j : Nat) t v, Try.f3.params[j]? = some t → args[j]? = some v → Value.okWide Try.prog W .any base t v := hval0
  have hW' := hW
  obtain ⟨p, q, hA0, hV, rfl, hfz, hnd⟩ := hW
  have hA : DataW.TrodAll enc Try.prog W 0 (fun _ => true) true Try.f3.params.toList args.toList ds p := hA0
  rw [Try.params3] at hA hval
  obtain ⟨v0, vs0, d0, ds0, p0, q0, hargs, rfl, rfl, h0, r0⟩ := trodAll_cons hA
  obtain ⟨v1, vs1, d1, ds1, p1, q1, rfl, rfl, rfl, h1, r1⟩ := trodAll_cons r0
  obtain ⟨rfl, rfl, rfl⟩ := trodAll_nil r1
  obtain rfl : args = #[v0, v1] := by cases args; simp_all
  obtain ⟨rfl, rfl⟩ := trodVars_none hV
  have k0 := h0
  have lt0 : ∀ x ∈ p0, x.block < W.heap.size := by obtain ⟨m, hm⟩ := k0; exact DataW.trod_lt m _ _ _ hm
  have k1 := h1
  have lt1 : ∀ x ∈ p1, x.block < W.heap.size := by obtain ⟨m, hm⟩ := k1; exact DataW.trod_lt m _ _ _ hm
  obtain ⟨l0, y0, wl0⟩ := open_bytes Try.underlying22 Try.underlying5 (by kernel_rfl) (hval 0 _ v0 rfl rfl) h0
  obtain ⟨l1, y1, wl1⟩ := open_bytes Try.underlying22 Try.underlying5 (by kernel_rfl) (hval 1 _ v1 rfl rfl) h1
  refine (walk (w := W) v0 l0 y0 wl0 v1 l1 y1 wl1).mono fun e W' ⟨he, bel⟩ => ?_
  subst he
  exact ⟨_, rfl, _, _, _, [], _, [], hW', trodAll_mk1 (shut_bool Try.underlying4 _), (trodAll_cons_mk (Below.trod laidOut (by kernel_rfl) (of_decide_eq_true (by kernel_rfl)) k0 bel lt0) (trodAll_cons_mk (Below.trod laidOut (by kernel_rfl) (of_decide_eq_true (by kernel_rfl)) k1 bel lt1) trodAll_mk0)), rfl, bel.frame _, fun h => by cases h⟩

theorem proved : Rows.RecordChunksSaid :=
  OpenClaim.holds_of_wide 3 Try.f3 rfl rfl rfl rfl rfl rfl rfl ⟨rfl, rfl, rfl, rfl, rfl⟩ rfl rfl rfl rfl rfl (by kernel_rfl) Try.func3 (by kernel_rfl)
    (of_decide_eq_true (by kernel_rfl)) (by unfold Func.isWrapper; first | (rw [if_pos (by decide +kernel)]; kernel_rfl) | (rw [if_neg (by decide +kernel)]; exact ⟨rfl, rfl⟩))
    (fun os started H enc _ => lifted os started H enc)
end Go.Proofs.Ytbbkailmlaffjaa.recordChunks
